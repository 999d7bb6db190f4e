/- The call of expr.typed: none and one part. Printed by wip/tools/gen_ty4.py. The call of expr.typed: two parts. Printed by wip/tools/gen_ty4.py. The call of expr.typed: two parts. Printed by wip/tools/gen_ty4.py. -/
import Derived.Test.YtlcdjaclahhdnaaTy3
namespace Go.Proofs.Ytlcdjaclahhdnaa
open Go.RowKit
set_option linter.unusedSimpArgs false
set_option linter.unusedVariables false

set_option maxRecDepth 100000 in
set_option maxHeartbeats 4000000 in
theorem typed_1 (tabs : List (List Int)) (R C : Nat) (v : Val) (A : Option Addr) (cap : Nat) (x : Value) (w : World) (ks : List Int) (hks : ks.length = 0) (hx : TabsIn w x tabs)
    (HKIDS : Hid (TyKids w x A 0 (fun i ev => ev = .returned (.int .i64 (ks.getD i 0))))) :
    Calls Try.prog 95 #[.agg (exCells 1 (R : Int) (C : Int) v (.slice A 0 cap)).toArray, x] w fun ev w' => TyR (typedHead tabs 1 (R : Int) (C : Int) v ks) ev ∧ Ext w w' := by
  have e1 : typedHead tabs 1 (R : Int) (C : Int) v ks = colK tabs (R : Int) (C : Int) := by simp [typedHead]
  rw [e1]; clear e1
  have HCOL := Lib.hid (fun w h => column_of 1 R C v (.slice A 0 cap) x tabs w h)
  have HX := Lib.hid hx; clear hx
  have HK := colK_err tabs (R : Int) (C : Int)
  unfold exCells at HCOL
  generalize colK tabs (R : Int) (C : Int) = q at *
  unfold exCells
  have h0 := Lib.hid (BoxAt.new (w := w) rfl (vs := [.int .i64 1, .int .i64 (R : Int), .int .i64 (C : Int), .int .i64 v.kind, .int .i64 v.int, .float .f64 v.flt, .string v.text, .slice A 0 cap]) (t := 27) rfl)
  go_enter Try.func95, Try.ntmps95
  go_wp2_with fail
  go_loopw [5, 11] (fun x y wr => ∃ i : Nat, y = .int .i64 (i : Int) ∧ i ≤ 0 ∧ OwnI wr (w.heap.size + 1) x (ks.take i) ∧ Ext (w.alloc (.cells #[.int .i64 1, .int .i64 (R : Int), .int .i64 (C : Int), .int .i64 v.kind, .int .i64 v.int, .float .f64 v.flt, .string v.text, .slice A 0 cap] 27)) wr) (fun _ y _ => 0 - (intOf y).toNat)
  case atStart => exact ⟨0, rfl, by omega, OwnI.nil _ _, Ext.refl _⟩
  case round =>
    rename_i hrel
    obtain ⟨i, rfl, hi, hrow, hE⟩ := hrel
    have HROW := Lib.hid hrow; have HEB := Lib.hid hE; have HE := Lib.hid (((Ext.refl w).alloc _).trans hE)
    clear hrow hE
    by_cases hlt : i < 0
    · omega
    · have hlt' : ¬ ((i : Int) < ((0 : Nat) : Int)) := by omega
      obtain rfl : i = 0 := by omega
      have hbx := (h0.out.ext HEB.out).cells
      obtain ⟨bx0, bx1, bx2, bx3, _⟩ := hbx
      have HBX := Lib.hid (h0.out.ext HEB.out)
      clear bx1 bx2
      clear bx3
      rcases HK with hq | hq
      · have HQ := Lib.hid hq; clear hq
        go_wp2_with (first
          | (refine wpList_wish rfl fun K hK => wp_loadA (vs := [.int .i64 1, .int .i64 (R : Int), .int .i64 (C : Int), .int .i64 v.kind, .int .i64 v.int, .float .f64 v.flt, .string v.text, .slice A 0 cap]) agg_ex (.tmp 2) rfl rfl HBX.out.cells (hK _ _ ?_))
          | (go_at_call 136; refine (HCOL.out _ (HX.out.ext HE.out)).mono ?_; rintro ev w3 ⟨h, hb1⟩; obtain rfl := TyR.ok HQ.out h; clear h))
        go_ret
        exact ⟨by unfold TyR; rw [if_pos HQ.out]; rfl, HE.out.trans hb1⟩
      · have HQ : Hid (q.2 ≠ 0) := Lib.hid (by omega)
        clear hq
        go_wp2_with (first
          | (refine wpList_wish rfl fun K hK => wp_loadA (vs := [.int .i64 1, .int .i64 (R : Int), .int .i64 (C : Int), .int .i64 v.kind, .int .i64 v.int, .float .f64 v.flt, .string v.text, .slice A 0 cap]) agg_ex (.tmp 2) rfl rfl HBX.out.cells (hK _ _ ?_))
          | (go_at_call 136; refine (HCOL.out _ (HX.out.ext HE.out)).mono ?_; rintro ev w3 ⟨h, hb1⟩; obtain rfl := TyR.bad HQ.out h; clear h))
        exact ⟨rfl, by unfold TyR; rw [if_neg HQ.out], HE.out.trans hb1⟩
set_option maxRecDepth 100000 in
set_option maxHeartbeats 4000000 in
theorem typed_2 (tabs : List (List Int)) (r c : Int) (v : Val) (A : Option Addr) (cap : Nat) (x : Value) (w : World) (ks : List Int) (hks : ks.length = 0)
    (HKIDS : Hid (TyKids w x A 0 (fun i ev => ev = .returned (.int .i64 (ks.getD i 0))))) :
    Calls Try.prog 95 #[.agg (exCells 2 r c v (.slice A 0 cap)).toArray, x] w fun ev w' => TyR (typedHead tabs 2 r c v ks) ev ∧ Ext w w' := by
  have e1 : typedHead tabs 2 r c v ks = (v.kind, 0) := by simp [typedHead]
  rw [e1]; clear e1
  unfold exCells
  have h0 := Lib.hid (BoxAt.new (w := w) rfl (vs := [.int .i64 2, .int .i64 r, .int .i64 c, .int .i64 v.kind, .int .i64 v.int, .float .f64 v.flt, .string v.text, .slice A 0 cap]) (t := 27) rfl)
  go_enter Try.func95, Try.ntmps95
  go_wp2_with fail
  go_loopw [5, 11] (fun x y wr => ∃ i : Nat, y = .int .i64 (i : Int) ∧ i ≤ 0 ∧ OwnI wr (w.heap.size + 1) x (ks.take i) ∧ Ext (w.alloc (.cells #[.int .i64 2, .int .i64 r, .int .i64 c, .int .i64 v.kind, .int .i64 v.int, .float .f64 v.flt, .string v.text, .slice A 0 cap] 27)) wr) (fun _ y _ => 0 - (intOf y).toNat)
  case atStart => exact ⟨0, rfl, by omega, OwnI.nil _ _, Ext.refl _⟩
  case round =>
    rename_i hrel
    obtain ⟨i, rfl, hi, hrow, hE⟩ := hrel
    have HROW := Lib.hid hrow; have HEB := Lib.hid hE; have HE := Lib.hid (((Ext.refl w).alloc _).trans hE)
    clear hrow hE
    by_cases hlt : i < 0
    · omega
    · have hlt' : ¬ ((i : Int) < ((0 : Nat) : Int)) := by omega
      obtain rfl : i = 0 := by omega
      have hbx := (h0.out.ext HEB.out).cells
      obtain ⟨bx0, bx1, bx2, bx3, _⟩ := hbx
      have HBX := Lib.hid (h0.out.ext HEB.out)
      clear bx1 bx2
      go_wp2_with fail
      go_ret
      exact ⟨rfl, HE.out⟩
set_option maxRecDepth 100000 in
set_option maxHeartbeats 4000000 in
theorem typed_13 (tabs : List (List Int)) (r c : Int) (v : Val) (A : Option Addr) (cap : Nat) (x : Value) (w : World) (ks : List Int) (hks : ks.length = 1)
    (HKIDS : Hid (TyKids w x A 1 (fun i ev => ev = .returned (.int .i64 (ks.getD i 0))))) :
    Calls Try.prog 95 #[.agg (exCells 13 r c v (.slice A 1 cap)).toArray, x] w fun ev w' => TyR (typedHead tabs 13 r c v ks) ev ∧ Ext w w' := by
  have e1 : typedHead tabs 13 r c v ks = (1, 0) := by simp [typedHead]
  rw [e1]; clear e1
  unfold exCells
  have h0 := Lib.hid (BoxAt.new (w := w) rfl (vs := [.int .i64 13, .int .i64 r, .int .i64 c, .int .i64 v.kind, .int .i64 v.int, .float .f64 v.flt, .string v.text, .slice A 1 cap]) (t := 27) rfl)
  go_enter Try.func95, Try.ntmps95
  go_wp2_with fail
  go_loopw [5, 11] (fun x y wr => ∃ i : Nat, y = .int .i64 (i : Int) ∧ i ≤ 1 ∧ OwnI wr (w.heap.size + 1) x (ks.take i) ∧ Ext (w.alloc (.cells #[.int .i64 13, .int .i64 r, .int .i64 c, .int .i64 v.kind, .int .i64 v.int, .float .f64 v.flt, .string v.text, .slice A 1 cap] 27)) wr) (fun _ y _ => 1 - (intOf y).toNat)
  case atStart => exact ⟨0, rfl, by omega, OwnI.nil _ _, Ext.refl _⟩
  case round =>
    rename_i hrel
    obtain ⟨i, rfl, hi, hrow, hE⟩ := hrel
    have HROW := Lib.hid hrow; have HEB := Lib.hid hE; have HE := Lib.hid (((Ext.refl w).alloc _).trans hE)
    clear hrow hE
    by_cases hlt : i < 1
    · have hlt' : (i : Int) < ((1 : Nat) : Int) := by omega
      have hI : (i : Int) ≤ 1000 := by omega
      have HTAKE := Lib.hid (row_take (ks := ks) (i := i) (by omega))
      have hlen : (ks.take i).length ≤ 1000000000 := by rw [List.length_take]; omega
      have HLEN := Lib.hid hlen; clear hlen
      have hsz : w.heap.size + 1 ≤ (wr.alloc (.cells #[] 0)).heap.size := by have := HEB.out.size; simp at this; simp; omega
      obtain ⟨g, o, e, A', cap', rfl, HAT, HCALL⟩ := HKIDS.out i hlt
      unfold Ex.cells exCells at HAT HCALL
      dsimp only at HCALL
      generalize ks.getD i 0 = q at *
      go_wp2_with (first
        | (refine wpList_wish rfl fun K hK => wp_idxS (i := i) Try.underlying25 size_ex (.tmp 9) _ rfl rfl rfl hlt (hK _ _ ?_))
        | (refine wpList_wish rfl fun K hK => wp_loadA (vs := [.int .i64 e.kind, .int .i64 e.rel, .int .i64 e.col, .int .i64 e.const.kind, .int .i64 e.const.int, .float .f64 e.const.flt, .string e.const.text, .slice A' e.kids.length cap']) agg_ex (.tmp 13) rfl rfl (HAT.out _ (HE.out)) (hK _ _ ?_))
        | (refine wpList_wish rfl fun K hK => wp_loadA (vs := [.int .i64 e.kind, .int .i64 e.rel, .int .i64 e.col, .int .i64 e.const.kind, .int .i64 e.const.int, .float .f64 e.const.flt, .string e.const.text, .slice A' e.kids.length cap']) agg_ex (.tmp 7) rfl rfl (At.new rfl _ _ _ rfl) (hK _ _ ?_))
        | (go_at_call 95; refine (HCALL.out _ (HE.out.trans ((Ext.refl _).alloc _))).mono ?_; rintro ev w2 ⟨rfl, hb⟩; have HB := Lib.hid hb; clear hb)
        | (at_builtin; refine wpList_addI rfl (.tmp 15) (.tmp 19) rfl rfl (HROW.out.ext (((Ext.refl _).alloc _).trans HB.out)) q rfl rfl HLEN.out (by have := HB.out.size; simp at this hsz; omega) ?_; intro v5 w5 ho5 hw5; have HO5 := Lib.hid ho5; have HW5 := Lib.hid hw5; clear ho5 hw5))
      refine ⟨⟨i + 1, by simp, by omega, by rw [← HTAKE.out]; exact HO5.out, (HEB.out.trans (((Ext.refl _).alloc _).trans HB.out)).trans_wr HW5.out (by simp)⟩, by simp [intOf] <;> omega⟩
    · have hlt' : ¬ ((i : Int) < ((1 : Nat) : Int)) := by omega
      obtain rfl : i = 1 := by omega
      have hbx := (h0.out.ext HEB.out).cells
      obtain ⟨bx0, bx1, bx2, bx3, _⟩ := hbx
      have HBX := Lib.hid (h0.out.ext HEB.out)
      clear bx1 bx2
      go_wp2_with fail
      go_ret
      exact ⟨rfl, HE.out⟩
set_option maxRecDepth 100000 in
set_option maxHeartbeats 4000000 in
theorem typed_6 (tabs : List (List Int)) (r c : Int) (v : Val) (A : Option Addr) (cap : Nat) (x : Value) (w : World) (ks : List Int) (hks : ks.length = 1)
    (HKIDS : Hid (TyKids w x A 1 (fun i ev => ev = .returned (.int .i64 (ks.getD i 0))))) :
    Calls Try.prog 95 #[.agg (exCells 6 r c v (.slice A 1 cap)).toArray, x] w fun ev w' => TyR (typedHead tabs 6 r c v ks) ev ∧ Ext w w' := by
  have e1 : typedHead tabs 6 r c v ks = oneR numericK (ks.getD 0 0) (ks.getD 0 0) := by simp [typedHead]
  rw [e1]; clear e1
  have HONE := Lib.hid (fun w => one_numericK (ks.getD 0 0) (ks.getD 0 0) w)
  have HE50 : Hid ((oneR numericK (ks.getD 0 0) (ks.getD 0 0)).2 = 0 ∨ (oneR numericK (ks.getD 0 0) (ks.getD 0 0)).2 = 50) := Lib.hid (by unfold oneR; split <;> simp)
  obtain ⟨z, HZ⟩ : ∃ z, z = oneR numericK (ks.getD 0 0) (ks.getD 0 0) := ⟨_, rfl⟩
  rw [← HZ] at HONE HE50 ⊢; clear HZ
  unfold exCells
  have h0 := Lib.hid (BoxAt.new (w := w) rfl (vs := [.int .i64 6, .int .i64 r, .int .i64 c, .int .i64 v.kind, .int .i64 v.int, .float .f64 v.flt, .string v.text, .slice A 1 cap]) (t := 27) rfl)
  go_enter Try.func95, Try.ntmps95
  go_wp2_with fail
  go_loopw [5, 11] (fun x y wr => ∃ i : Nat, y = .int .i64 (i : Int) ∧ i ≤ 1 ∧ OwnI wr (w.heap.size + 1) x (ks.take i) ∧ Ext (w.alloc (.cells #[.int .i64 6, .int .i64 r, .int .i64 c, .int .i64 v.kind, .int .i64 v.int, .float .f64 v.flt, .string v.text, .slice A 1 cap] 27)) wr) (fun _ y _ => 1 - (intOf y).toNat)
  case atStart => exact ⟨0, rfl, by omega, OwnI.nil _ _, Ext.refl _⟩
  case round =>
    rename_i hrel
    obtain ⟨i, rfl, hi, hrow, hE⟩ := hrel
    have HROW := Lib.hid hrow; have HEB := Lib.hid hE; have HE := Lib.hid (((Ext.refl w).alloc _).trans hE)
    clear hrow hE
    by_cases hlt : i < 1
    · have hlt' : (i : Int) < ((1 : Nat) : Int) := by omega
      have hI : (i : Int) ≤ 1000 := by omega
      have HTAKE := Lib.hid (row_take (ks := ks) (i := i) (by omega))
      have hlen : (ks.take i).length ≤ 1000000000 := by rw [List.length_take]; omega
      have HLEN := Lib.hid hlen; clear hlen
      have hsz : w.heap.size + 1 ≤ (wr.alloc (.cells #[] 0)).heap.size := by have := HEB.out.size; simp at this; simp; omega
      obtain ⟨g, o, e, A', cap', rfl, HAT, HCALL⟩ := HKIDS.out i hlt
      unfold Ex.cells exCells at HAT HCALL
      dsimp only at HCALL
      generalize ks.getD i 0 = q at *
      go_wp2_with (first
        | (refine wpList_wish rfl fun K hK => wp_idxS (i := i) Try.underlying25 size_ex (.tmp 9) _ rfl rfl rfl hlt (hK _ _ ?_))
        | (refine wpList_wish rfl fun K hK => wp_loadA (vs := [.int .i64 e.kind, .int .i64 e.rel, .int .i64 e.col, .int .i64 e.const.kind, .int .i64 e.const.int, .float .f64 e.const.flt, .string e.const.text, .slice A' e.kids.length cap']) agg_ex (.tmp 13) rfl rfl (HAT.out _ (HE.out)) (hK _ _ ?_))
        | (refine wpList_wish rfl fun K hK => wp_loadA (vs := [.int .i64 e.kind, .int .i64 e.rel, .int .i64 e.col, .int .i64 e.const.kind, .int .i64 e.const.int, .float .f64 e.const.flt, .string e.const.text, .slice A' e.kids.length cap']) agg_ex (.tmp 7) rfl rfl (At.new rfl _ _ _ rfl) (hK _ _ ?_))
        | (go_at_call 95; refine (HCALL.out _ (HE.out.trans ((Ext.refl _).alloc _))).mono ?_; rintro ev w2 ⟨rfl, hb⟩; have HB := Lib.hid hb; clear hb)
        | (at_builtin; refine wpList_addI rfl (.tmp 15) (.tmp 19) rfl rfl (HROW.out.ext (((Ext.refl _).alloc _).trans HB.out)) q rfl rfl HLEN.out (by have := HB.out.size; simp at this hsz; omega) ?_; intro v5 w5 ho5 hw5; have HO5 := Lib.hid ho5; have HW5 := Lib.hid hw5; clear ho5 hw5))
      refine ⟨⟨i + 1, by simp, by omega, by rw [← HTAKE.out]; exact HO5.out, (HEB.out.trans (((Ext.refl _).alloc _).trans HB.out)).trans_wr HW5.out (by simp)⟩, by simp [intOf] <;> omega⟩
    · have hlt' : ¬ ((i : Int) < ((1 : Nat) : Int)) := by omega
      obtain rfl : i = 1 := by omega
      have hbx := (h0.out.ext HEB.out).cells
      obtain ⟨bx0, bx1, bx2, bx3, _⟩ := hbx
      have HBX := Lib.hid (h0.out.ext HEB.out)
      clear bx1 bx2
      clear bx3
      obtain ⟨rg, rcap, rfl, hrg, hcells⟩ := HROW.out.get (by rw [List.take_of_length_le (by omega)]; intro e; rw [e] at hks; simp at hks)
      have hl9 : (ks.take 1).length = 1 := by rw [List.length_take]; omega
      rw [hl9]; clear hl9
      have y0 : wr.cell? ⟨rg, 0, none⟩ = some (.int .i64 (ks.getD 0 0)) := hcells 0 _ (by rw [List.take_of_length_le (by omega), List.getD_eq_getElem?_getD, List.getElem?_eq_getElem (by omega)]; rfl)
      clear hcells
      generalize ks.getD 0 0 = q0 at *
      go_wp2_with fail
      go_still_tail 6, (by kernel_rfl)
      change wpList _ _ _ _ _ wr.drew
      have HED := Lib.hid (HE.out.drew)
      generalize wr.drew = wd at *
      rcases HE50.out with hq | hq
      · have HQ := Lib.hid hq; clear hq
        go_wp2_with (go_at_call 137; refine (HONE.out _).mono ?_; rintro ev w3 ⟨h, rfl⟩; obtain rfl := TyR.ok HQ.out h; clear h)
        go_ret
        exact ⟨by unfold TyR; rw [if_pos HQ.out]; rfl, HED.out⟩
      · have HQ : Hid (z.2 ≠ 0) := Lib.hid (by omega)
        clear hq
        go_wp2_with (go_at_call 137; refine (HONE.out _).mono ?_; rintro ev w3 ⟨h, rfl⟩; obtain rfl := TyR.bad HQ.out h; clear h)
        exact ⟨rfl, by unfold TyR; rw [if_neg HQ.out], HED.out⟩
set_option maxRecDepth 100000 in
set_option maxHeartbeats 4000000 in
theorem typed_12 (tabs : List (List Int)) (r c : Int) (v : Val) (A : Option Addr) (cap : Nat) (x : Value) (w : World) (ks : List Int) (hks : ks.length = 1)
    (HKIDS : Hid (TyKids w x A 1 (fun i ev => ev = .returned (.int .i64 (ks.getD i 0))))) :
    Calls Try.prog 95 #[.agg (exCells 12 r c v (.slice A 1 cap)).toArray, x] w fun ev w' => TyR (typedHead tabs 12 r c v ks) ev ∧ Ext w w' := by
  have e1 : typedHead tabs 12 r c v ks = boolR (oneR truthK (ks.getD 0 0) (ks.getD 0 0)) := by simp [typedHead]
  rw [e1]; clear e1
  have HONE := Lib.hid (fun w => one_truthK (ks.getD 0 0) (ks.getD 0 0) w)
  have HE50 : Hid ((oneR truthK (ks.getD 0 0) (ks.getD 0 0)).2 = 0 ∨ (oneR truthK (ks.getD 0 0) (ks.getD 0 0)).2 = 50) := Lib.hid (by unfold oneR; split <;> simp)
  obtain ⟨z, HZ⟩ : ∃ z, z = oneR truthK (ks.getD 0 0) (ks.getD 0 0) := ⟨_, rfl⟩
  rw [← HZ] at HONE HE50 ⊢; clear HZ
  unfold exCells
  have h0 := Lib.hid (BoxAt.new (w := w) rfl (vs := [.int .i64 12, .int .i64 r, .int .i64 c, .int .i64 v.kind, .int .i64 v.int, .float .f64 v.flt, .string v.text, .slice A 1 cap]) (t := 27) rfl)
  go_enter Try.func95, Try.ntmps95
  go_wp2_with fail
  go_loopw [5, 11] (fun x y wr => ∃ i : Nat, y = .int .i64 (i : Int) ∧ i ≤ 1 ∧ OwnI wr (w.heap.size + 1) x (ks.take i) ∧ Ext (w.alloc (.cells #[.int .i64 12, .int .i64 r, .int .i64 c, .int .i64 v.kind, .int .i64 v.int, .float .f64 v.flt, .string v.text, .slice A 1 cap] 27)) wr) (fun _ y _ => 1 - (intOf y).toNat)
  case atStart => exact ⟨0, rfl, by omega, OwnI.nil _ _, Ext.refl _⟩
  case round =>
    rename_i hrel
    obtain ⟨i, rfl, hi, hrow, hE⟩ := hrel
    have HROW := Lib.hid hrow; have HEB := Lib.hid hE; have HE := Lib.hid (((Ext.refl w).alloc _).trans hE)
    clear hrow hE
    by_cases hlt : i < 1
    · have hlt' : (i : Int) < ((1 : Nat) : Int) := by omega
      have hI : (i : Int) ≤ 1000 := by omega
      have HTAKE := Lib.hid (row_take (ks := ks) (i := i) (by omega))
      have hlen : (ks.take i).length ≤ 1000000000 := by rw [List.length_take]; omega
      have HLEN := Lib.hid hlen; clear hlen
      have hsz : w.heap.size + 1 ≤ (wr.alloc (.cells #[] 0)).heap.size := by have := HEB.out.size; simp at this; simp; omega
      obtain ⟨g, o, e, A', cap', rfl, HAT, HCALL⟩ := HKIDS.out i hlt
      unfold Ex.cells exCells at HAT HCALL
      dsimp only at HCALL
      generalize ks.getD i 0 = q at *
      go_wp2_with (first
        | (refine wpList_wish rfl fun K hK => wp_idxS (i := i) Try.underlying25 size_ex (.tmp 9) _ rfl rfl rfl hlt (hK _ _ ?_))
        | (refine wpList_wish rfl fun K hK => wp_loadA (vs := [.int .i64 e.kind, .int .i64 e.rel, .int .i64 e.col, .int .i64 e.const.kind, .int .i64 e.const.int, .float .f64 e.const.flt, .string e.const.text, .slice A' e.kids.length cap']) agg_ex (.tmp 13) rfl rfl (HAT.out _ (HE.out)) (hK _ _ ?_))
        | (refine wpList_wish rfl fun K hK => wp_loadA (vs := [.int .i64 e.kind, .int .i64 e.rel, .int .i64 e.col, .int .i64 e.const.kind, .int .i64 e.const.int, .float .f64 e.const.flt, .string e.const.text, .slice A' e.kids.length cap']) agg_ex (.tmp 7) rfl rfl (At.new rfl _ _ _ rfl) (hK _ _ ?_))
        | (go_at_call 95; refine (HCALL.out _ (HE.out.trans ((Ext.refl _).alloc _))).mono ?_; rintro ev w2 ⟨rfl, hb⟩; have HB := Lib.hid hb; clear hb)
        | (at_builtin; refine wpList_addI rfl (.tmp 15) (.tmp 19) rfl rfl (HROW.out.ext (((Ext.refl _).alloc _).trans HB.out)) q rfl rfl HLEN.out (by have := HB.out.size; simp at this hsz; omega) ?_; intro v5 w5 ho5 hw5; have HO5 := Lib.hid ho5; have HW5 := Lib.hid hw5; clear ho5 hw5))
      refine ⟨⟨i + 1, by simp, by omega, by rw [← HTAKE.out]; exact HO5.out, (HEB.out.trans (((Ext.refl _).alloc _).trans HB.out)).trans_wr HW5.out (by simp)⟩, by simp [intOf] <;> omega⟩
    · have hlt' : ¬ ((i : Int) < ((1 : Nat) : Int)) := by omega
      obtain rfl : i = 1 := by omega
      have hbx := (h0.out.ext HEB.out).cells
      obtain ⟨bx0, bx1, bx2, bx3, _⟩ := hbx
      have HBX := Lib.hid (h0.out.ext HEB.out)
      clear bx1 bx2
      clear bx3
      obtain ⟨rg, rcap, rfl, hrg, hcells⟩ := HROW.out.get (by rw [List.take_of_length_le (by omega)]; intro e; rw [e] at hks; simp at hks)
      have hl9 : (ks.take 1).length = 1 := by rw [List.length_take]; omega
      rw [hl9]; clear hl9
      have y0 : wr.cell? ⟨rg, 0, none⟩ = some (.int .i64 (ks.getD 0 0)) := hcells 0 _ (by rw [List.take_of_length_le (by omega), List.getD_eq_getElem?_getD, List.getElem?_eq_getElem (by omega)]; rfl)
      clear hcells
      generalize ks.getD 0 0 = q0 at *
      go_wp2_with fail
      go_still_tail 6, (by kernel_rfl)
      change wpList _ _ _ _ _ wr.drew
      have HED := Lib.hid (HE.out.drew)
      generalize wr.drew = wd at *
      rcases HE50.out with hq | hq
      · have HQ := Lib.hid hq; clear hq
        go_wp2_with (go_at_call 137; refine (HONE.out _).mono ?_; rintro ev w3 ⟨h, rfl⟩; obtain rfl := TyR.ok HQ.out h; clear h)
        go_ret
        exact ⟨by unfold TyR boolR; rw [if_pos HQ.out, if_pos rfl]; rfl, HED.out⟩
      · have HQ : Hid (z.2 ≠ 0) := Lib.hid (by omega)
        clear hq
        go_wp2_with (go_at_call 137; refine (HONE.out _).mono ?_; rintro ev w3 ⟨h, rfl⟩; obtain rfl := TyR.bad HQ.out h; clear h)
        exact ⟨rfl, by unfold TyR boolR; rw [if_neg HQ.out, if_neg HQ.out], HED.out⟩
end Go.Proofs.Ytlcdjaclahhdnaa
namespace Go.Proofs.Ytlcdjaclahhdnaa
open Go.RowKit
set_option linter.unusedSimpArgs false
set_option linter.unusedVariables false

set_option maxRecDepth 100000 in
set_option maxHeartbeats 4000000 in
theorem typed_3 (tabs : List (List Int)) (r c : Int) (v : Val) (A : Option Addr) (cap : Nat) (x : Value) (w : World) (ks : List Int) (hks : ks.length = 2)
    (HKIDS : Hid (TyKids w x A 2 (fun i ev => ev = .returned (.int .i64 (ks.getD i 0))))) :
    Calls Try.prog 95 #[.agg (exCells 3 r c v (.slice A 2 cap)).toArray, x] w fun ev w' => TyR (typedHead tabs 3 r c v ks) ev ∧ Ext w w' := by
  have e1 : typedHead tabs 3 r c v ks = oneR numericK (ks.getD 0 0) (ks.getD 1 0) := by simp [typedHead]
  rw [e1]; clear e1
  have HONE := Lib.hid (fun w => one_numericK (ks.getD 0 0) (ks.getD 1 0) w)
  have HE50 : Hid ((oneR numericK (ks.getD 0 0) (ks.getD 1 0)).2 = 0 ∨ (oneR numericK (ks.getD 0 0) (ks.getD 1 0)).2 = 50) := Lib.hid (by unfold oneR; split <;> simp)
  obtain ⟨z, HZ⟩ : ∃ z, z = oneR numericK (ks.getD 0 0) (ks.getD 1 0) := ⟨_, rfl⟩
  rw [← HZ] at HONE HE50 ⊢; clear HZ
  unfold exCells
  have h0 := Lib.hid (BoxAt.new (w := w) rfl (vs := [.int .i64 3, .int .i64 r, .int .i64 c, .int .i64 v.kind, .int .i64 v.int, .float .f64 v.flt, .string v.text, .slice A 2 cap]) (t := 27) rfl)
  go_enter Try.func95, Try.ntmps95
  go_wp2_with fail
  go_loopw [5, 11] (fun x y wr => ∃ i : Nat, y = .int .i64 (i : Int) ∧ i ≤ 2 ∧ OwnI wr (w.heap.size + 1) x (ks.take i) ∧ Ext (w.alloc (.cells #[.int .i64 3, .int .i64 r, .int .i64 c, .int .i64 v.kind, .int .i64 v.int, .float .f64 v.flt, .string v.text, .slice A 2 cap] 27)) wr) (fun _ y _ => 2 - (intOf y).toNat)
  case atStart => exact ⟨0, rfl, by omega, OwnI.nil _ _, Ext.refl _⟩
  case round =>
    rename_i hrel
    obtain ⟨i, rfl, hi, hrow, hE⟩ := hrel
    have HROW := Lib.hid hrow; have HEB := Lib.hid hE; have HE := Lib.hid (((Ext.refl w).alloc _).trans hE)
    clear hrow hE
    by_cases hlt : i < 2
    · have hlt' : (i : Int) < ((2 : Nat) : Int) := by omega
      have hI : (i : Int) ≤ 1000 := by omega
      have HTAKE := Lib.hid (row_take (ks := ks) (i := i) (by omega))
      have hlen : (ks.take i).length ≤ 1000000000 := by rw [List.length_take]; omega
      have HLEN := Lib.hid hlen; clear hlen
      have hsz : w.heap.size + 1 ≤ (wr.alloc (.cells #[] 0)).heap.size := by have := HEB.out.size; simp at this; simp; omega
      obtain ⟨g, o, e, A', cap', rfl, HAT, HCALL⟩ := HKIDS.out i hlt
      unfold Ex.cells exCells at HAT HCALL
      dsimp only at HCALL
      generalize ks.getD i 0 = q at *
      go_wp2_with (first
        | (refine wpList_wish rfl fun K hK => wp_idxS (i := i) Try.underlying25 size_ex (.tmp 9) _ rfl rfl rfl hlt (hK _ _ ?_))
        | (refine wpList_wish rfl fun K hK => wp_loadA (vs := [.int .i64 e.kind, .int .i64 e.rel, .int .i64 e.col, .int .i64 e.const.kind, .int .i64 e.const.int, .float .f64 e.const.flt, .string e.const.text, .slice A' e.kids.length cap']) agg_ex (.tmp 13) rfl rfl (HAT.out _ (HE.out)) (hK _ _ ?_))
        | (refine wpList_wish rfl fun K hK => wp_loadA (vs := [.int .i64 e.kind, .int .i64 e.rel, .int .i64 e.col, .int .i64 e.const.kind, .int .i64 e.const.int, .float .f64 e.const.flt, .string e.const.text, .slice A' e.kids.length cap']) agg_ex (.tmp 7) rfl rfl (At.new rfl _ _ _ rfl) (hK _ _ ?_))
        | (go_at_call 95; refine (HCALL.out _ (HE.out.trans ((Ext.refl _).alloc _))).mono ?_; rintro ev w2 ⟨rfl, hb⟩; have HB := Lib.hid hb; clear hb)
        | (at_builtin; refine wpList_addI rfl (.tmp 15) (.tmp 19) rfl rfl (HROW.out.ext (((Ext.refl _).alloc _).trans HB.out)) q rfl rfl HLEN.out (by have := HB.out.size; simp at this hsz; omega) ?_; intro v5 w5 ho5 hw5; have HO5 := Lib.hid ho5; have HW5 := Lib.hid hw5; clear ho5 hw5))
      refine ⟨⟨i + 1, by simp, by omega, by rw [← HTAKE.out]; exact HO5.out, (HEB.out.trans (((Ext.refl _).alloc _).trans HB.out)).trans_wr HW5.out (by simp)⟩, by simp [intOf] <;> omega⟩
    · have hlt' : ¬ ((i : Int) < ((2 : Nat) : Int)) := by omega
      obtain rfl : i = 2 := by omega
      have hbx := (h0.out.ext HEB.out).cells
      obtain ⟨bx0, bx1, bx2, bx3, _⟩ := hbx
      have HBX := Lib.hid (h0.out.ext HEB.out)
      clear bx1 bx2
      clear bx3
      obtain ⟨rg, rcap, rfl, hrg, hcells⟩ := HROW.out.get (by rw [List.take_of_length_le (by omega)]; intro e; rw [e] at hks; simp at hks)
      have hl9 : (ks.take 2).length = 2 := by rw [List.length_take]; omega
      rw [hl9]; clear hl9
      have y0 : wr.cell? ⟨rg, 0, none⟩ = some (.int .i64 (ks.getD 0 0)) := hcells 0 _ (by rw [List.take_of_length_le (by omega), List.getD_eq_getElem?_getD, List.getElem?_eq_getElem (by omega)]; rfl)
      have y1 : wr.cell? ⟨rg, 1, none⟩ = some (.int .i64 (ks.getD 1 0)) := hcells 1 _ (by rw [List.take_of_length_le (by omega), List.getD_eq_getElem?_getD, List.getElem?_eq_getElem (by omega)]; rfl)
      clear hcells
      generalize ks.getD 0 0 = q0 at *
      generalize ks.getD 1 0 = q1 at *
      go_wp2_with fail
      go_still_tail 6, (by kernel_rfl)
      change wpList _ _ _ _ _ wr.drew
      have HED := Lib.hid (HE.out.drew)
      generalize wr.drew = wd at *
      rcases HE50.out with hq | hq
      · have HQ := Lib.hid hq; clear hq
        go_wp2_with (go_at_call 137; refine (HONE.out _).mono ?_; rintro ev w3 ⟨h, rfl⟩; obtain rfl := TyR.ok HQ.out h; clear h)
        go_ret
        exact ⟨by unfold TyR; rw [if_pos HQ.out]; rfl, HED.out⟩
      · have HQ : Hid (z.2 ≠ 0) := Lib.hid (by omega)
        clear hq
        go_wp2_with (go_at_call 137; refine (HONE.out _).mono ?_; rintro ev w3 ⟨h, rfl⟩; obtain rfl := TyR.bad HQ.out h; clear h)
        exact ⟨rfl, by unfold TyR; rw [if_neg HQ.out], HED.out⟩
set_option maxRecDepth 100000 in
set_option maxHeartbeats 4000000 in
theorem typed_4 (tabs : List (List Int)) (r c : Int) (v : Val) (A : Option Addr) (cap : Nat) (x : Value) (w : World) (ks : List Int) (hks : ks.length = 2)
    (HKIDS : Hid (TyKids w x A 2 (fun i ev => ev = .returned (.int .i64 (ks.getD i 0))))) :
    Calls Try.prog 95 #[.agg (exCells 4 r c v (.slice A 2 cap)).toArray, x] w fun ev w' => TyR (typedHead tabs 4 r c v ks) ev ∧ Ext w w' := by
  have e1 : typedHead tabs 4 r c v ks = oneR numericK (ks.getD 0 0) (ks.getD 1 0) := by simp [typedHead]
  rw [e1]; clear e1
  have HONE := Lib.hid (fun w => one_numericK (ks.getD 0 0) (ks.getD 1 0) w)
  have HE50 : Hid ((oneR numericK (ks.getD 0 0) (ks.getD 1 0)).2 = 0 ∨ (oneR numericK (ks.getD 0 0) (ks.getD 1 0)).2 = 50) := Lib.hid (by unfold oneR; split <;> simp)
  obtain ⟨z, HZ⟩ : ∃ z, z = oneR numericK (ks.getD 0 0) (ks.getD 1 0) := ⟨_, rfl⟩
  rw [← HZ] at HONE HE50 ⊢; clear HZ
  unfold exCells
  have h0 := Lib.hid (BoxAt.new (w := w) rfl (vs := [.int .i64 4, .int .i64 r, .int .i64 c, .int .i64 v.kind, .int .i64 v.int, .float .f64 v.flt, .string v.text, .slice A 2 cap]) (t := 27) rfl)
  go_enter Try.func95, Try.ntmps95
  go_wp2_with fail
  go_loopw [5, 11] (fun x y wr => ∃ i : Nat, y = .int .i64 (i : Int) ∧ i ≤ 2 ∧ OwnI wr (w.heap.size + 1) x (ks.take i) ∧ Ext (w.alloc (.cells #[.int .i64 4, .int .i64 r, .int .i64 c, .int .i64 v.kind, .int .i64 v.int, .float .f64 v.flt, .string v.text, .slice A 2 cap] 27)) wr) (fun _ y _ => 2 - (intOf y).toNat)
  case atStart => exact ⟨0, rfl, by omega, OwnI.nil _ _, Ext.refl _⟩
  case round =>
    rename_i hrel
    obtain ⟨i, rfl, hi, hrow, hE⟩ := hrel
    have HROW := Lib.hid hrow; have HEB := Lib.hid hE; have HE := Lib.hid (((Ext.refl w).alloc _).trans hE)
    clear hrow hE
    by_cases hlt : i < 2
    · have hlt' : (i : Int) < ((2 : Nat) : Int) := by omega
      have hI : (i : Int) ≤ 1000 := by omega
      have HTAKE := Lib.hid (row_take (ks := ks) (i := i) (by omega))
      have hlen : (ks.take i).length ≤ 1000000000 := by rw [List.length_take]; omega
      have HLEN := Lib.hid hlen; clear hlen
      have hsz : w.heap.size + 1 ≤ (wr.alloc (.cells #[] 0)).heap.size := by have := HEB.out.size; simp at this; simp; omega
      obtain ⟨g, o, e, A', cap', rfl, HAT, HCALL⟩ := HKIDS.out i hlt
      unfold Ex.cells exCells at HAT HCALL
      dsimp only at HCALL
      generalize ks.getD i 0 = q at *
      go_wp2_with (first
        | (refine wpList_wish rfl fun K hK => wp_idxS (i := i) Try.underlying25 size_ex (.tmp 9) _ rfl rfl rfl hlt (hK _ _ ?_))
        | (refine wpList_wish rfl fun K hK => wp_loadA (vs := [.int .i64 e.kind, .int .i64 e.rel, .int .i64 e.col, .int .i64 e.const.kind, .int .i64 e.const.int, .float .f64 e.const.flt, .string e.const.text, .slice A' e.kids.length cap']) agg_ex (.tmp 13) rfl rfl (HAT.out _ (HE.out)) (hK _ _ ?_))
        | (refine wpList_wish rfl fun K hK => wp_loadA (vs := [.int .i64 e.kind, .int .i64 e.rel, .int .i64 e.col, .int .i64 e.const.kind, .int .i64 e.const.int, .float .f64 e.const.flt, .string e.const.text, .slice A' e.kids.length cap']) agg_ex (.tmp 7) rfl rfl (At.new rfl _ _ _ rfl) (hK _ _ ?_))
        | (go_at_call 95; refine (HCALL.out _ (HE.out.trans ((Ext.refl _).alloc _))).mono ?_; rintro ev w2 ⟨rfl, hb⟩; have HB := Lib.hid hb; clear hb)
        | (at_builtin; refine wpList_addI rfl (.tmp 15) (.tmp 19) rfl rfl (HROW.out.ext (((Ext.refl _).alloc _).trans HB.out)) q rfl rfl HLEN.out (by have := HB.out.size; simp at this hsz; omega) ?_; intro v5 w5 ho5 hw5; have HO5 := Lib.hid ho5; have HW5 := Lib.hid hw5; clear ho5 hw5))
      refine ⟨⟨i + 1, by simp, by omega, by rw [← HTAKE.out]; exact HO5.out, (HEB.out.trans (((Ext.refl _).alloc _).trans HB.out)).trans_wr HW5.out (by simp)⟩, by simp [intOf] <;> omega⟩
    · have hlt' : ¬ ((i : Int) < ((2 : Nat) : Int)) := by omega
      obtain rfl : i = 2 := by omega
      have hbx := (h0.out.ext HEB.out).cells
      obtain ⟨bx0, bx1, bx2, bx3, _⟩ := hbx
      have HBX := Lib.hid (h0.out.ext HEB.out)
      clear bx1 bx2
      clear bx3
      obtain ⟨rg, rcap, rfl, hrg, hcells⟩ := HROW.out.get (by rw [List.take_of_length_le (by omega)]; intro e; rw [e] at hks; simp at hks)
      have hl9 : (ks.take 2).length = 2 := by rw [List.length_take]; omega
      rw [hl9]; clear hl9
      have y0 : wr.cell? ⟨rg, 0, none⟩ = some (.int .i64 (ks.getD 0 0)) := hcells 0 _ (by rw [List.take_of_length_le (by omega), List.getD_eq_getElem?_getD, List.getElem?_eq_getElem (by omega)]; rfl)
      have y1 : wr.cell? ⟨rg, 1, none⟩ = some (.int .i64 (ks.getD 1 0)) := hcells 1 _ (by rw [List.take_of_length_le (by omega), List.getD_eq_getElem?_getD, List.getElem?_eq_getElem (by omega)]; rfl)
      clear hcells
      generalize ks.getD 0 0 = q0 at *
      generalize ks.getD 1 0 = q1 at *
      go_wp2_with fail
      go_still_tail 6, (by kernel_rfl)
      change wpList _ _ _ _ _ wr.drew
      have HED := Lib.hid (HE.out.drew)
      generalize wr.drew = wd at *
      rcases HE50.out with hq | hq
      · have HQ := Lib.hid hq; clear hq
        go_wp2_with (go_at_call 137; refine (HONE.out _).mono ?_; rintro ev w3 ⟨h, rfl⟩; obtain rfl := TyR.ok HQ.out h; clear h)
        go_ret
        exact ⟨by unfold TyR; rw [if_pos HQ.out]; rfl, HED.out⟩
      · have HQ : Hid (z.2 ≠ 0) := Lib.hid (by omega)
        clear hq
        go_wp2_with (go_at_call 137; refine (HONE.out _).mono ?_; rintro ev w3 ⟨h, rfl⟩; obtain rfl := TyR.bad HQ.out h; clear h)
        exact ⟨rfl, by unfold TyR; rw [if_neg HQ.out], HED.out⟩
set_option maxRecDepth 100000 in
set_option maxHeartbeats 4000000 in
theorem typed_5 (tabs : List (List Int)) (r c : Int) (v : Val) (A : Option Addr) (cap : Nat) (x : Value) (w : World) (ks : List Int) (hks : ks.length = 2)
    (HKIDS : Hid (TyKids w x A 2 (fun i ev => ev = .returned (.int .i64 (ks.getD i 0))))) :
    Calls Try.prog 95 #[.agg (exCells 5 r c v (.slice A 2 cap)).toArray, x] w fun ev w' => TyR (typedHead tabs 5 r c v ks) ev ∧ Ext w w' := by
  have e1 : typedHead tabs 5 r c v ks = oneR numericK (ks.getD 0 0) (ks.getD 1 0) := by simp [typedHead]
  rw [e1]; clear e1
  have HONE := Lib.hid (fun w => one_numericK (ks.getD 0 0) (ks.getD 1 0) w)
  have HE50 : Hid ((oneR numericK (ks.getD 0 0) (ks.getD 1 0)).2 = 0 ∨ (oneR numericK (ks.getD 0 0) (ks.getD 1 0)).2 = 50) := Lib.hid (by unfold oneR; split <;> simp)
  obtain ⟨z, HZ⟩ : ∃ z, z = oneR numericK (ks.getD 0 0) (ks.getD 1 0) := ⟨_, rfl⟩
  rw [← HZ] at HONE HE50 ⊢; clear HZ
  unfold exCells
  have h0 := Lib.hid (BoxAt.new (w := w) rfl (vs := [.int .i64 5, .int .i64 r, .int .i64 c, .int .i64 v.kind, .int .i64 v.int, .float .f64 v.flt, .string v.text, .slice A 2 cap]) (t := 27) rfl)
  go_enter Try.func95, Try.ntmps95
  go_wp2_with fail
  go_loopw [5, 11] (fun x y wr => ∃ i : Nat, y = .int .i64 (i : Int) ∧ i ≤ 2 ∧ OwnI wr (w.heap.size + 1) x (ks.take i) ∧ Ext (w.alloc (.cells #[.int .i64 5, .int .i64 r, .int .i64 c, .int .i64 v.kind, .int .i64 v.int, .float .f64 v.flt, .string v.text, .slice A 2 cap] 27)) wr) (fun _ y _ => 2 - (intOf y).toNat)
  case atStart => exact ⟨0, rfl, by omega, OwnI.nil _ _, Ext.refl _⟩
  case round =>
    rename_i hrel
    obtain ⟨i, rfl, hi, hrow, hE⟩ := hrel
    have HROW := Lib.hid hrow; have HEB := Lib.hid hE; have HE := Lib.hid (((Ext.refl w).alloc _).trans hE)
    clear hrow hE
    by_cases hlt : i < 2
    · have hlt' : (i : Int) < ((2 : Nat) : Int) := by omega
      have hI : (i : Int) ≤ 1000 := by omega
      have HTAKE := Lib.hid (row_take (ks := ks) (i := i) (by omega))
      have hlen : (ks.take i).length ≤ 1000000000 := by rw [List.length_take]; omega
      have HLEN := Lib.hid hlen; clear hlen
      have hsz : w.heap.size + 1 ≤ (wr.alloc (.cells #[] 0)).heap.size := by have := HEB.out.size; simp at this; simp; omega
      obtain ⟨g, o, e, A', cap', rfl, HAT, HCALL⟩ := HKIDS.out i hlt
      unfold Ex.cells exCells at HAT HCALL
      dsimp only at HCALL
      generalize ks.getD i 0 = q at *
      go_wp2_with (first
        | (refine wpList_wish rfl fun K hK => wp_idxS (i := i) Try.underlying25 size_ex (.tmp 9) _ rfl rfl rfl hlt (hK _ _ ?_))
        | (refine wpList_wish rfl fun K hK => wp_loadA (vs := [.int .i64 e.kind, .int .i64 e.rel, .int .i64 e.col, .int .i64 e.const.kind, .int .i64 e.const.int, .float .f64 e.const.flt, .string e.const.text, .slice A' e.kids.length cap']) agg_ex (.tmp 13) rfl rfl (HAT.out _ (HE.out)) (hK _ _ ?_))
        | (refine wpList_wish rfl fun K hK => wp_loadA (vs := [.int .i64 e.kind, .int .i64 e.rel, .int .i64 e.col, .int .i64 e.const.kind, .int .i64 e.const.int, .float .f64 e.const.flt, .string e.const.text, .slice A' e.kids.length cap']) agg_ex (.tmp 7) rfl rfl (At.new rfl _ _ _ rfl) (hK _ _ ?_))
        | (go_at_call 95; refine (HCALL.out _ (HE.out.trans ((Ext.refl _).alloc _))).mono ?_; rintro ev w2 ⟨rfl, hb⟩; have HB := Lib.hid hb; clear hb)
        | (at_builtin; refine wpList_addI rfl (.tmp 15) (.tmp 19) rfl rfl (HROW.out.ext (((Ext.refl _).alloc _).trans HB.out)) q rfl rfl HLEN.out (by have := HB.out.size; simp at this hsz; omega) ?_; intro v5 w5 ho5 hw5; have HO5 := Lib.hid ho5; have HW5 := Lib.hid hw5; clear ho5 hw5))
      refine ⟨⟨i + 1, by simp, by omega, by rw [← HTAKE.out]; exact HO5.out, (HEB.out.trans (((Ext.refl _).alloc _).trans HB.out)).trans_wr HW5.out (by simp)⟩, by simp [intOf] <;> omega⟩
    · have hlt' : ¬ ((i : Int) < ((2 : Nat) : Int)) := by omega
      obtain rfl : i = 2 := by omega
      have hbx := (h0.out.ext HEB.out).cells
      obtain ⟨bx0, bx1, bx2, bx3, _⟩ := hbx
      have HBX := Lib.hid (h0.out.ext HEB.out)
      clear bx1 bx2
      clear bx3
      obtain ⟨rg, rcap, rfl, hrg, hcells⟩ := HROW.out.get (by rw [List.take_of_length_le (by omega)]; intro e; rw [e] at hks; simp at hks)
      have hl9 : (ks.take 2).length = 2 := by rw [List.length_take]; omega
      rw [hl9]; clear hl9
      have y0 : wr.cell? ⟨rg, 0, none⟩ = some (.int .i64 (ks.getD 0 0)) := hcells 0 _ (by rw [List.take_of_length_le (by omega), List.getD_eq_getElem?_getD, List.getElem?_eq_getElem (by omega)]; rfl)
      have y1 : wr.cell? ⟨rg, 1, none⟩ = some (.int .i64 (ks.getD 1 0)) := hcells 1 _ (by rw [List.take_of_length_le (by omega), List.getD_eq_getElem?_getD, List.getElem?_eq_getElem (by omega)]; rfl)
      clear hcells
      generalize ks.getD 0 0 = q0 at *
      generalize ks.getD 1 0 = q1 at *
      go_wp2_with fail
      go_still_tail 6, (by kernel_rfl)
      change wpList _ _ _ _ _ wr.drew
      have HED := Lib.hid (HE.out.drew)
      generalize wr.drew = wd at *
      rcases HE50.out with hq | hq
      · have HQ := Lib.hid hq; clear hq
        go_wp2_with (go_at_call 137; refine (HONE.out _).mono ?_; rintro ev w3 ⟨h, rfl⟩; obtain rfl := TyR.ok HQ.out h; clear h)
        go_ret
        exact ⟨by unfold TyR; rw [if_pos HQ.out]; rfl, HED.out⟩
      · have HQ : Hid (z.2 ≠ 0) := Lib.hid (by omega)
        clear hq
        go_wp2_with (go_at_call 137; refine (HONE.out _).mono ?_; rintro ev w3 ⟨h, rfl⟩; obtain rfl := TyR.bad HQ.out h; clear h)
        exact ⟨rfl, by unfold TyR; rw [if_neg HQ.out], HED.out⟩
set_option maxRecDepth 100000 in
set_option maxHeartbeats 4000000 in
theorem typed_7 (tabs : List (List Int)) (r c : Int) (v : Val) (A : Option Addr) (cap : Nat) (x : Value) (w : World) (ks : List Int) (hks : ks.length = 2)
    (HKIDS : Hid (TyKids w x A 2 (fun i ev => ev = .returned (.int .i64 (ks.getD i 0))))) :
    Calls Try.prog 95 #[.agg (exCells 7 r c v (.slice A 2 cap)).toArray, x] w fun ev w' => TyR (typedHead tabs 7 r c v ks) ev ∧ Ext w w' := by
  have e1 : typedHead tabs 7 r c v ks = boolR (oneR anyK (ks.getD 0 0) (ks.getD 1 0)) := by simp [typedHead]
  rw [e1]; clear e1
  have HONE := Lib.hid (fun w => one_anyK (ks.getD 0 0) (ks.getD 1 0) w)
  have HE50 : Hid ((oneR anyK (ks.getD 0 0) (ks.getD 1 0)).2 = 0 ∨ (oneR anyK (ks.getD 0 0) (ks.getD 1 0)).2 = 50) := Lib.hid (by unfold oneR; split <;> simp)
  obtain ⟨z, HZ⟩ : ∃ z, z = oneR anyK (ks.getD 0 0) (ks.getD 1 0) := ⟨_, rfl⟩
  rw [← HZ] at HONE HE50 ⊢; clear HZ
  unfold exCells
  have h0 := Lib.hid (BoxAt.new (w := w) rfl (vs := [.int .i64 7, .int .i64 r, .int .i64 c, .int .i64 v.kind, .int .i64 v.int, .float .f64 v.flt, .string v.text, .slice A 2 cap]) (t := 27) rfl)
  go_enter Try.func95, Try.ntmps95
  go_wp2_with fail
  go_loopw [5, 11] (fun x y wr => ∃ i : Nat, y = .int .i64 (i : Int) ∧ i ≤ 2 ∧ OwnI wr (w.heap.size + 1) x (ks.take i) ∧ Ext (w.alloc (.cells #[.int .i64 7, .int .i64 r, .int .i64 c, .int .i64 v.kind, .int .i64 v.int, .float .f64 v.flt, .string v.text, .slice A 2 cap] 27)) wr) (fun _ y _ => 2 - (intOf y).toNat)
  case atStart => exact ⟨0, rfl, by omega, OwnI.nil _ _, Ext.refl _⟩
  case round =>
    rename_i hrel
    obtain ⟨i, rfl, hi, hrow, hE⟩ := hrel
    have HROW := Lib.hid hrow; have HEB := Lib.hid hE; have HE := Lib.hid (((Ext.refl w).alloc _).trans hE)
    clear hrow hE
    by_cases hlt : i < 2
    · have hlt' : (i : Int) < ((2 : Nat) : Int) := by omega
      have hI : (i : Int) ≤ 1000 := by omega
      have HTAKE := Lib.hid (row_take (ks := ks) (i := i) (by omega))
      have hlen : (ks.take i).length ≤ 1000000000 := by rw [List.length_take]; omega
      have HLEN := Lib.hid hlen; clear hlen
      have hsz : w.heap.size + 1 ≤ (wr.alloc (.cells #[] 0)).heap.size := by have := HEB.out.size; simp at this; simp; omega
      obtain ⟨g, o, e, A', cap', rfl, HAT, HCALL⟩ := HKIDS.out i hlt
      unfold Ex.cells exCells at HAT HCALL
      dsimp only at HCALL
      generalize ks.getD i 0 = q at *
      go_wp2_with (first
        | (refine wpList_wish rfl fun K hK => wp_idxS (i := i) Try.underlying25 size_ex (.tmp 9) _ rfl rfl rfl hlt (hK _ _ ?_))
        | (refine wpList_wish rfl fun K hK => wp_loadA (vs := [.int .i64 e.kind, .int .i64 e.rel, .int .i64 e.col, .int .i64 e.const.kind, .int .i64 e.const.int, .float .f64 e.const.flt, .string e.const.text, .slice A' e.kids.length cap']) agg_ex (.tmp 13) rfl rfl (HAT.out _ (HE.out)) (hK _ _ ?_))
        | (refine wpList_wish rfl fun K hK => wp_loadA (vs := [.int .i64 e.kind, .int .i64 e.rel, .int .i64 e.col, .int .i64 e.const.kind, .int .i64 e.const.int, .float .f64 e.const.flt, .string e.const.text, .slice A' e.kids.length cap']) agg_ex (.tmp 7) rfl rfl (At.new rfl _ _ _ rfl) (hK _ _ ?_))
        | (go_at_call 95; refine (HCALL.out _ (HE.out.trans ((Ext.refl _).alloc _))).mono ?_; rintro ev w2 ⟨rfl, hb⟩; have HB := Lib.hid hb; clear hb)
        | (at_builtin; refine wpList_addI rfl (.tmp 15) (.tmp 19) rfl rfl (HROW.out.ext (((Ext.refl _).alloc _).trans HB.out)) q rfl rfl HLEN.out (by have := HB.out.size; simp at this hsz; omega) ?_; intro v5 w5 ho5 hw5; have HO5 := Lib.hid ho5; have HW5 := Lib.hid hw5; clear ho5 hw5))
      refine ⟨⟨i + 1, by simp, by omega, by rw [← HTAKE.out]; exact HO5.out, (HEB.out.trans (((Ext.refl _).alloc _).trans HB.out)).trans_wr HW5.out (by simp)⟩, by simp [intOf] <;> omega⟩
    · have hlt' : ¬ ((i : Int) < ((2 : Nat) : Int)) := by omega
      obtain rfl : i = 2 := by omega
      have hbx := (h0.out.ext HEB.out).cells
      obtain ⟨bx0, bx1, bx2, bx3, _⟩ := hbx
      have HBX := Lib.hid (h0.out.ext HEB.out)
      clear bx1 bx2
      clear bx3
      obtain ⟨rg, rcap, rfl, hrg, hcells⟩ := HROW.out.get (by rw [List.take_of_length_le (by omega)]; intro e; rw [e] at hks; simp at hks)
      have hl9 : (ks.take 2).length = 2 := by rw [List.length_take]; omega
      rw [hl9]; clear hl9
      have y0 : wr.cell? ⟨rg, 0, none⟩ = some (.int .i64 (ks.getD 0 0)) := hcells 0 _ (by rw [List.take_of_length_le (by omega), List.getD_eq_getElem?_getD, List.getElem?_eq_getElem (by omega)]; rfl)
      have y1 : wr.cell? ⟨rg, 1, none⟩ = some (.int .i64 (ks.getD 1 0)) := hcells 1 _ (by rw [List.take_of_length_le (by omega), List.getD_eq_getElem?_getD, List.getElem?_eq_getElem (by omega)]; rfl)
      clear hcells
      generalize ks.getD 0 0 = q0 at *
      generalize ks.getD 1 0 = q1 at *
      go_wp2_with fail
      go_still_tail 6, (by kernel_rfl)
      change wpList _ _ _ _ _ wr.drew
      have HED := Lib.hid (HE.out.drew)
      generalize wr.drew = wd at *
      rcases HE50.out with hq | hq
      · have HQ := Lib.hid hq; clear hq
        go_wp2_with (go_at_call 137; refine (HONE.out _).mono ?_; rintro ev w3 ⟨h, rfl⟩; obtain rfl := TyR.ok HQ.out h; clear h)
        go_ret
        exact ⟨by unfold TyR boolR; rw [if_pos HQ.out, if_pos rfl]; rfl, HED.out⟩
      · have HQ : Hid (z.2 ≠ 0) := Lib.hid (by omega)
        clear hq
        go_wp2_with (go_at_call 137; refine (HONE.out _).mono ?_; rintro ev w3 ⟨h, rfl⟩; obtain rfl := TyR.bad HQ.out h; clear h)
        exact ⟨rfl, by unfold TyR boolR; rw [if_neg HQ.out, if_neg HQ.out], HED.out⟩
end Go.Proofs.Ytlcdjaclahhdnaa
namespace Go.Proofs.Ytlcdjaclahhdnaa
open Go.RowKit
set_option linter.unusedSimpArgs false
set_option linter.unusedVariables false

set_option maxRecDepth 100000 in
set_option maxHeartbeats 4000000 in
theorem typed_8 (tabs : List (List Int)) (r c : Int) (v : Val) (A : Option Addr) (cap : Nat) (x : Value) (w : World) (ks : List Int) (hks : ks.length = 2)
    (HKIDS : Hid (TyKids w x A 2 (fun i ev => ev = .returned (.int .i64 (ks.getD i 0))))) :
    Calls Try.prog 95 #[.agg (exCells 8 r c v (.slice A 2 cap)).toArray, x] w fun ev w' => TyR (typedHead tabs 8 r c v ks) ev ∧ Ext w w' := by
  have e1 : typedHead tabs 8 r c v ks = boolR (oneR anyK (ks.getD 0 0) (ks.getD 1 0)) := by simp [typedHead]
  rw [e1]; clear e1
  have HONE := Lib.hid (fun w => one_anyK (ks.getD 0 0) (ks.getD 1 0) w)
  have HE50 : Hid ((oneR anyK (ks.getD 0 0) (ks.getD 1 0)).2 = 0 ∨ (oneR anyK (ks.getD 0 0) (ks.getD 1 0)).2 = 50) := Lib.hid (by unfold oneR; split <;> simp)
  obtain ⟨z, HZ⟩ : ∃ z, z = oneR anyK (ks.getD 0 0) (ks.getD 1 0) := ⟨_, rfl⟩
  rw [← HZ] at HONE HE50 ⊢; clear HZ
  unfold exCells
  have h0 := Lib.hid (BoxAt.new (w := w) rfl (vs := [.int .i64 8, .int .i64 r, .int .i64 c, .int .i64 v.kind, .int .i64 v.int, .float .f64 v.flt, .string v.text, .slice A 2 cap]) (t := 27) rfl)
  go_enter Try.func95, Try.ntmps95
  go_wp2_with fail
  go_loopw [5, 11] (fun x y wr => ∃ i : Nat, y = .int .i64 (i : Int) ∧ i ≤ 2 ∧ OwnI wr (w.heap.size + 1) x (ks.take i) ∧ Ext (w.alloc (.cells #[.int .i64 8, .int .i64 r, .int .i64 c, .int .i64 v.kind, .int .i64 v.int, .float .f64 v.flt, .string v.text, .slice A 2 cap] 27)) wr) (fun _ y _ => 2 - (intOf y).toNat)
  case atStart => exact ⟨0, rfl, by omega, OwnI.nil _ _, Ext.refl _⟩
  case round =>
    rename_i hrel
    obtain ⟨i, rfl, hi, hrow, hE⟩ := hrel
    have HROW := Lib.hid hrow; have HEB := Lib.hid hE; have HE := Lib.hid (((Ext.refl w).alloc _).trans hE)
    clear hrow hE
    by_cases hlt : i < 2
    · have hlt' : (i : Int) < ((2 : Nat) : Int) := by omega
      have hI : (i : Int) ≤ 1000 := by omega
      have HTAKE := Lib.hid (row_take (ks := ks) (i := i) (by omega))
      have hlen : (ks.take i).length ≤ 1000000000 := by rw [List.length_take]; omega
      have HLEN := Lib.hid hlen; clear hlen
      have hsz : w.heap.size + 1 ≤ (wr.alloc (.cells #[] 0)).heap.size := by have := HEB.out.size; simp at this; simp; omega
      obtain ⟨g, o, e, A', cap', rfl, HAT, HCALL⟩ := HKIDS.out i hlt
      unfold Ex.cells exCells at HAT HCALL
      dsimp only at HCALL
      generalize ks.getD i 0 = q at *
      go_wp2_with (first
        | (refine wpList_wish rfl fun K hK => wp_idxS (i := i) Try.underlying25 size_ex (.tmp 9) _ rfl rfl rfl hlt (hK _ _ ?_))
        | (refine wpList_wish rfl fun K hK => wp_loadA (vs := [.int .i64 e.kind, .int .i64 e.rel, .int .i64 e.col, .int .i64 e.const.kind, .int .i64 e.const.int, .float .f64 e.const.flt, .string e.const.text, .slice A' e.kids.length cap']) agg_ex (.tmp 13) rfl rfl (HAT.out _ (HE.out)) (hK _ _ ?_))
        | (refine wpList_wish rfl fun K hK => wp_loadA (vs := [.int .i64 e.kind, .int .i64 e.rel, .int .i64 e.col, .int .i64 e.const.kind, .int .i64 e.const.int, .float .f64 e.const.flt, .string e.const.text, .slice A' e.kids.length cap']) agg_ex (.tmp 7) rfl rfl (At.new rfl _ _ _ rfl) (hK _ _ ?_))
        | (go_at_call 95; refine (HCALL.out _ (HE.out.trans ((Ext.refl _).alloc _))).mono ?_; rintro ev w2 ⟨rfl, hb⟩; have HB := Lib.hid hb; clear hb)
        | (at_builtin; refine wpList_addI rfl (.tmp 15) (.tmp 19) rfl rfl (HROW.out.ext (((Ext.refl _).alloc _).trans HB.out)) q rfl rfl HLEN.out (by have := HB.out.size; simp at this hsz; omega) ?_; intro v5 w5 ho5 hw5; have HO5 := Lib.hid ho5; have HW5 := Lib.hid hw5; clear ho5 hw5))
      refine ⟨⟨i + 1, by simp, by omega, by rw [← HTAKE.out]; exact HO5.out, (HEB.out.trans (((Ext.refl _).alloc _).trans HB.out)).trans_wr HW5.out (by simp)⟩, by simp [intOf] <;> omega⟩
    · have hlt' : ¬ ((i : Int) < ((2 : Nat) : Int)) := by omega
      obtain rfl : i = 2 := by omega
      have hbx := (h0.out.ext HEB.out).cells
      obtain ⟨bx0, bx1, bx2, bx3, _⟩ := hbx
      have HBX := Lib.hid (h0.out.ext HEB.out)
      clear bx1 bx2
      clear bx3
      obtain ⟨rg, rcap, rfl, hrg, hcells⟩ := HROW.out.get (by rw [List.take_of_length_le (by omega)]; intro e; rw [e] at hks; simp at hks)
      have hl9 : (ks.take 2).length = 2 := by rw [List.length_take]; omega
      rw [hl9]; clear hl9
      have y0 : wr.cell? ⟨rg, 0, none⟩ = some (.int .i64 (ks.getD 0 0)) := hcells 0 _ (by rw [List.take_of_length_le (by omega), List.getD_eq_getElem?_getD, List.getElem?_eq_getElem (by omega)]; rfl)
      have y1 : wr.cell? ⟨rg, 1, none⟩ = some (.int .i64 (ks.getD 1 0)) := hcells 1 _ (by rw [List.take_of_length_le (by omega), List.getD_eq_getElem?_getD, List.getElem?_eq_getElem (by omega)]; rfl)
      clear hcells
      generalize ks.getD 0 0 = q0 at *
      generalize ks.getD 1 0 = q1 at *
      go_wp2_with fail
      go_still_tail 6, (by kernel_rfl)
      change wpList _ _ _ _ _ wr.drew
      have HED := Lib.hid (HE.out.drew)
      generalize wr.drew = wd at *
      rcases HE50.out with hq | hq
      · have HQ := Lib.hid hq; clear hq
        go_wp2_with (go_at_call 137; refine (HONE.out _).mono ?_; rintro ev w3 ⟨h, rfl⟩; obtain rfl := TyR.ok HQ.out h; clear h)
        go_ret
        exact ⟨by unfold TyR boolR; rw [if_pos HQ.out, if_pos rfl]; rfl, HED.out⟩
      · have HQ : Hid (z.2 ≠ 0) := Lib.hid (by omega)
        clear hq
        go_wp2_with (go_at_call 137; refine (HONE.out _).mono ?_; rintro ev w3 ⟨h, rfl⟩; obtain rfl := TyR.bad HQ.out h; clear h)
        exact ⟨rfl, by unfold TyR boolR; rw [if_neg HQ.out, if_neg HQ.out], HED.out⟩
set_option maxRecDepth 100000 in
set_option maxHeartbeats 4000000 in
theorem typed_9 (tabs : List (List Int)) (r c : Int) (v : Val) (A : Option Addr) (cap : Nat) (x : Value) (w : World) (ks : List Int) (hks : ks.length = 2)
    (HKIDS : Hid (TyKids w x A 2 (fun i ev => ev = .returned (.int .i64 (ks.getD i 0))))) :
    Calls Try.prog 95 #[.agg (exCells 9 r c v (.slice A 2 cap)).toArray, x] w fun ev w' => TyR (typedHead tabs 9 r c v ks) ev ∧ Ext w w' := by
  have e1 : typedHead tabs 9 r c v ks = boolR (oneR anyK (ks.getD 0 0) (ks.getD 1 0)) := by simp [typedHead]
  rw [e1]; clear e1
  have HONE := Lib.hid (fun w => one_anyK (ks.getD 0 0) (ks.getD 1 0) w)
  have HE50 : Hid ((oneR anyK (ks.getD 0 0) (ks.getD 1 0)).2 = 0 ∨ (oneR anyK (ks.getD 0 0) (ks.getD 1 0)).2 = 50) := Lib.hid (by unfold oneR; split <;> simp)
  obtain ⟨z, HZ⟩ : ∃ z, z = oneR anyK (ks.getD 0 0) (ks.getD 1 0) := ⟨_, rfl⟩
  rw [← HZ] at HONE HE50 ⊢; clear HZ
  unfold exCells
  have h0 := Lib.hid (BoxAt.new (w := w) rfl (vs := [.int .i64 9, .int .i64 r, .int .i64 c, .int .i64 v.kind, .int .i64 v.int, .float .f64 v.flt, .string v.text, .slice A 2 cap]) (t := 27) rfl)
  go_enter Try.func95, Try.ntmps95
  go_wp2_with fail
  go_loopw [5, 11] (fun x y wr => ∃ i : Nat, y = .int .i64 (i : Int) ∧ i ≤ 2 ∧ OwnI wr (w.heap.size + 1) x (ks.take i) ∧ Ext (w.alloc (.cells #[.int .i64 9, .int .i64 r, .int .i64 c, .int .i64 v.kind, .int .i64 v.int, .float .f64 v.flt, .string v.text, .slice A 2 cap] 27)) wr) (fun _ y _ => 2 - (intOf y).toNat)
  case atStart => exact ⟨0, rfl, by omega, OwnI.nil _ _, Ext.refl _⟩
  case round =>
    rename_i hrel
    obtain ⟨i, rfl, hi, hrow, hE⟩ := hrel
    have HROW := Lib.hid hrow; have HEB := Lib.hid hE; have HE := Lib.hid (((Ext.refl w).alloc _).trans hE)
    clear hrow hE
    by_cases hlt : i < 2
    · have hlt' : (i : Int) < ((2 : Nat) : Int) := by omega
      have hI : (i : Int) ≤ 1000 := by omega
      have HTAKE := Lib.hid (row_take (ks := ks) (i := i) (by omega))
      have hlen : (ks.take i).length ≤ 1000000000 := by rw [List.length_take]; omega
      have HLEN := Lib.hid hlen; clear hlen
      have hsz : w.heap.size + 1 ≤ (wr.alloc (.cells #[] 0)).heap.size := by have := HEB.out.size; simp at this; simp; omega
      obtain ⟨g, o, e, A', cap', rfl, HAT, HCALL⟩ := HKIDS.out i hlt
      unfold Ex.cells exCells at HAT HCALL
      dsimp only at HCALL
      generalize ks.getD i 0 = q at *
      go_wp2_with (first
        | (refine wpList_wish rfl fun K hK => wp_idxS (i := i) Try.underlying25 size_ex (.tmp 9) _ rfl rfl rfl hlt (hK _ _ ?_))
        | (refine wpList_wish rfl fun K hK => wp_loadA (vs := [.int .i64 e.kind, .int .i64 e.rel, .int .i64 e.col, .int .i64 e.const.kind, .int .i64 e.const.int, .float .f64 e.const.flt, .string e.const.text, .slice A' e.kids.length cap']) agg_ex (.tmp 13) rfl rfl (HAT.out _ (HE.out)) (hK _ _ ?_))
        | (refine wpList_wish rfl fun K hK => wp_loadA (vs := [.int .i64 e.kind, .int .i64 e.rel, .int .i64 e.col, .int .i64 e.const.kind, .int .i64 e.const.int, .float .f64 e.const.flt, .string e.const.text, .slice A' e.kids.length cap']) agg_ex (.tmp 7) rfl rfl (At.new rfl _ _ _ rfl) (hK _ _ ?_))
        | (go_at_call 95; refine (HCALL.out _ (HE.out.trans ((Ext.refl _).alloc _))).mono ?_; rintro ev w2 ⟨rfl, hb⟩; have HB := Lib.hid hb; clear hb)
        | (at_builtin; refine wpList_addI rfl (.tmp 15) (.tmp 19) rfl rfl (HROW.out.ext (((Ext.refl _).alloc _).trans HB.out)) q rfl rfl HLEN.out (by have := HB.out.size; simp at this hsz; omega) ?_; intro v5 w5 ho5 hw5; have HO5 := Lib.hid ho5; have HW5 := Lib.hid hw5; clear ho5 hw5))
      refine ⟨⟨i + 1, by simp, by omega, by rw [← HTAKE.out]; exact HO5.out, (HEB.out.trans (((Ext.refl _).alloc _).trans HB.out)).trans_wr HW5.out (by simp)⟩, by simp [intOf] <;> omega⟩
    · have hlt' : ¬ ((i : Int) < ((2 : Nat) : Int)) := by omega
      obtain rfl : i = 2 := by omega
      have hbx := (h0.out.ext HEB.out).cells
      obtain ⟨bx0, bx1, bx2, bx3, _⟩ := hbx
      have HBX := Lib.hid (h0.out.ext HEB.out)
      clear bx1 bx2
      clear bx3
      obtain ⟨rg, rcap, rfl, hrg, hcells⟩ := HROW.out.get (by rw [List.take_of_length_le (by omega)]; intro e; rw [e] at hks; simp at hks)
      have hl9 : (ks.take 2).length = 2 := by rw [List.length_take]; omega
      rw [hl9]; clear hl9
      have y0 : wr.cell? ⟨rg, 0, none⟩ = some (.int .i64 (ks.getD 0 0)) := hcells 0 _ (by rw [List.take_of_length_le (by omega), List.getD_eq_getElem?_getD, List.getElem?_eq_getElem (by omega)]; rfl)
      have y1 : wr.cell? ⟨rg, 1, none⟩ = some (.int .i64 (ks.getD 1 0)) := hcells 1 _ (by rw [List.take_of_length_le (by omega), List.getD_eq_getElem?_getD, List.getElem?_eq_getElem (by omega)]; rfl)
      clear hcells
      generalize ks.getD 0 0 = q0 at *
      generalize ks.getD 1 0 = q1 at *
      go_wp2_with fail
      go_still_tail 6, (by kernel_rfl)
      change wpList _ _ _ _ _ wr.drew
      have HED := Lib.hid (HE.out.drew)
      generalize wr.drew = wd at *
      rcases HE50.out with hq | hq
      · have HQ := Lib.hid hq; clear hq
        go_wp2_with (go_at_call 137; refine (HONE.out _).mono ?_; rintro ev w3 ⟨h, rfl⟩; obtain rfl := TyR.ok HQ.out h; clear h)
        go_ret
        exact ⟨by unfold TyR boolR; rw [if_pos HQ.out, if_pos rfl]; rfl, HED.out⟩
      · have HQ : Hid (z.2 ≠ 0) := Lib.hid (by omega)
        clear hq
        go_wp2_with (go_at_call 137; refine (HONE.out _).mono ?_; rintro ev w3 ⟨h, rfl⟩; obtain rfl := TyR.bad HQ.out h; clear h)
        exact ⟨rfl, by unfold TyR boolR; rw [if_neg HQ.out, if_neg HQ.out], HED.out⟩
set_option maxRecDepth 100000 in
set_option maxHeartbeats 4000000 in
theorem typed_10 (tabs : List (List Int)) (r c : Int) (v : Val) (A : Option Addr) (cap : Nat) (x : Value) (w : World) (ks : List Int) (hks : ks.length = 2)
    (HKIDS : Hid (TyKids w x A 2 (fun i ev => ev = .returned (.int .i64 (ks.getD i 0))))) :
    Calls Try.prog 95 #[.agg (exCells 10 r c v (.slice A 2 cap)).toArray, x] w fun ev w' => TyR (typedHead tabs 10 r c v ks) ev ∧ Ext w w' := by
  have e1 : typedHead tabs 10 r c v ks = boolR (oneR truthK (ks.getD 0 0) (ks.getD 1 0)) := by simp [typedHead]
  rw [e1]; clear e1
  have HONE := Lib.hid (fun w => one_truthK (ks.getD 0 0) (ks.getD 1 0) w)
  have HE50 : Hid ((oneR truthK (ks.getD 0 0) (ks.getD 1 0)).2 = 0 ∨ (oneR truthK (ks.getD 0 0) (ks.getD 1 0)).2 = 50) := Lib.hid (by unfold oneR; split <;> simp)
  obtain ⟨z, HZ⟩ : ∃ z, z = oneR truthK (ks.getD 0 0) (ks.getD 1 0) := ⟨_, rfl⟩
  rw [← HZ] at HONE HE50 ⊢; clear HZ
  unfold exCells
  have h0 := Lib.hid (BoxAt.new (w := w) rfl (vs := [.int .i64 10, .int .i64 r, .int .i64 c, .int .i64 v.kind, .int .i64 v.int, .float .f64 v.flt, .string v.text, .slice A 2 cap]) (t := 27) rfl)
  go_enter Try.func95, Try.ntmps95
  go_wp2_with fail
  go_loopw [5, 11] (fun x y wr => ∃ i : Nat, y = .int .i64 (i : Int) ∧ i ≤ 2 ∧ OwnI wr (w.heap.size + 1) x (ks.take i) ∧ Ext (w.alloc (.cells #[.int .i64 10, .int .i64 r, .int .i64 c, .int .i64 v.kind, .int .i64 v.int, .float .f64 v.flt, .string v.text, .slice A 2 cap] 27)) wr) (fun _ y _ => 2 - (intOf y).toNat)
  case atStart => exact ⟨0, rfl, by omega, OwnI.nil _ _, Ext.refl _⟩
  case round =>
    rename_i hrel
    obtain ⟨i, rfl, hi, hrow, hE⟩ := hrel
    have HROW := Lib.hid hrow; have HEB := Lib.hid hE; have HE := Lib.hid (((Ext.refl w).alloc _).trans hE)
    clear hrow hE
    by_cases hlt : i < 2
    · have hlt' : (i : Int) < ((2 : Nat) : Int) := by omega
      have hI : (i : Int) ≤ 1000 := by omega
      have HTAKE := Lib.hid (row_take (ks := ks) (i := i) (by omega))
      have hlen : (ks.take i).length ≤ 1000000000 := by rw [List.length_take]; omega
      have HLEN := Lib.hid hlen; clear hlen
      have hsz : w.heap.size + 1 ≤ (wr.alloc (.cells #[] 0)).heap.size := by have := HEB.out.size; simp at this; simp; omega
      obtain ⟨g, o, e, A', cap', rfl, HAT, HCALL⟩ := HKIDS.out i hlt
      unfold Ex.cells exCells at HAT HCALL
      dsimp only at HCALL
      generalize ks.getD i 0 = q at *
      go_wp2_with (first
        | (refine wpList_wish rfl fun K hK => wp_idxS (i := i) Try.underlying25 size_ex (.tmp 9) _ rfl rfl rfl hlt (hK _ _ ?_))
        | (refine wpList_wish rfl fun K hK => wp_loadA (vs := [.int .i64 e.kind, .int .i64 e.rel, .int .i64 e.col, .int .i64 e.const.kind, .int .i64 e.const.int, .float .f64 e.const.flt, .string e.const.text, .slice A' e.kids.length cap']) agg_ex (.tmp 13) rfl rfl (HAT.out _ (HE.out)) (hK _ _ ?_))
        | (refine wpList_wish rfl fun K hK => wp_loadA (vs := [.int .i64 e.kind, .int .i64 e.rel, .int .i64 e.col, .int .i64 e.const.kind, .int .i64 e.const.int, .float .f64 e.const.flt, .string e.const.text, .slice A' e.kids.length cap']) agg_ex (.tmp 7) rfl rfl (At.new rfl _ _ _ rfl) (hK _ _ ?_))
        | (go_at_call 95; refine (HCALL.out _ (HE.out.trans ((Ext.refl _).alloc _))).mono ?_; rintro ev w2 ⟨rfl, hb⟩; have HB := Lib.hid hb; clear hb)
        | (at_builtin; refine wpList_addI rfl (.tmp 15) (.tmp 19) rfl rfl (HROW.out.ext (((Ext.refl _).alloc _).trans HB.out)) q rfl rfl HLEN.out (by have := HB.out.size; simp at this hsz; omega) ?_; intro v5 w5 ho5 hw5; have HO5 := Lib.hid ho5; have HW5 := Lib.hid hw5; clear ho5 hw5))
      refine ⟨⟨i + 1, by simp, by omega, by rw [← HTAKE.out]; exact HO5.out, (HEB.out.trans (((Ext.refl _).alloc _).trans HB.out)).trans_wr HW5.out (by simp)⟩, by simp [intOf] <;> omega⟩
    · have hlt' : ¬ ((i : Int) < ((2 : Nat) : Int)) := by omega
      obtain rfl : i = 2 := by omega
      have hbx := (h0.out.ext HEB.out).cells
      obtain ⟨bx0, bx1, bx2, bx3, _⟩ := hbx
      have HBX := Lib.hid (h0.out.ext HEB.out)
      clear bx1 bx2
      clear bx3
      obtain ⟨rg, rcap, rfl, hrg, hcells⟩ := HROW.out.get (by rw [List.take_of_length_le (by omega)]; intro e; rw [e] at hks; simp at hks)
      have hl9 : (ks.take 2).length = 2 := by rw [List.length_take]; omega
      rw [hl9]; clear hl9
      have y0 : wr.cell? ⟨rg, 0, none⟩ = some (.int .i64 (ks.getD 0 0)) := hcells 0 _ (by rw [List.take_of_length_le (by omega), List.getD_eq_getElem?_getD, List.getElem?_eq_getElem (by omega)]; rfl)
      have y1 : wr.cell? ⟨rg, 1, none⟩ = some (.int .i64 (ks.getD 1 0)) := hcells 1 _ (by rw [List.take_of_length_le (by omega), List.getD_eq_getElem?_getD, List.getElem?_eq_getElem (by omega)]; rfl)
      clear hcells
      generalize ks.getD 0 0 = q0 at *
      generalize ks.getD 1 0 = q1 at *
      go_wp2_with fail
      go_still_tail 6, (by kernel_rfl)
      change wpList _ _ _ _ _ wr.drew
      have HED := Lib.hid (HE.out.drew)
      generalize wr.drew = wd at *
      rcases HE50.out with hq | hq
      · have HQ := Lib.hid hq; clear hq
        go_wp2_with (go_at_call 137; refine (HONE.out _).mono ?_; rintro ev w3 ⟨h, rfl⟩; obtain rfl := TyR.ok HQ.out h; clear h)
        go_ret
        exact ⟨by unfold TyR boolR; rw [if_pos HQ.out, if_pos rfl]; rfl, HED.out⟩
      · have HQ : Hid (z.2 ≠ 0) := Lib.hid (by omega)
        clear hq
        go_wp2_with (go_at_call 137; refine (HONE.out _).mono ?_; rintro ev w3 ⟨h, rfl⟩; obtain rfl := TyR.bad HQ.out h; clear h)
        exact ⟨rfl, by unfold TyR boolR; rw [if_neg HQ.out, if_neg HQ.out], HED.out⟩
set_option maxRecDepth 100000 in
set_option maxHeartbeats 4000000 in
theorem typed_11 (tabs : List (List Int)) (r c : Int) (v : Val) (A : Option Addr) (cap : Nat) (x : Value) (w : World) (ks : List Int) (hks : ks.length = 2)
    (HKIDS : Hid (TyKids w x A 2 (fun i ev => ev = .returned (.int .i64 (ks.getD i 0))))) :
    Calls Try.prog 95 #[.agg (exCells 11 r c v (.slice A 2 cap)).toArray, x] w fun ev w' => TyR (typedHead tabs 11 r c v ks) ev ∧ Ext w w' := by
  have e1 : typedHead tabs 11 r c v ks = boolR (oneR truthK (ks.getD 0 0) (ks.getD 1 0)) := by simp [typedHead]
  rw [e1]; clear e1
  have HONE := Lib.hid (fun w => one_truthK (ks.getD 0 0) (ks.getD 1 0) w)
  have HE50 : Hid ((oneR truthK (ks.getD 0 0) (ks.getD 1 0)).2 = 0 ∨ (oneR truthK (ks.getD 0 0) (ks.getD 1 0)).2 = 50) := Lib.hid (by unfold oneR; split <;> simp)
  obtain ⟨z, HZ⟩ : ∃ z, z = oneR truthK (ks.getD 0 0) (ks.getD 1 0) := ⟨_, rfl⟩
  rw [← HZ] at HONE HE50 ⊢; clear HZ
  unfold exCells
  have h0 := Lib.hid (BoxAt.new (w := w) rfl (vs := [.int .i64 11, .int .i64 r, .int .i64 c, .int .i64 v.kind, .int .i64 v.int, .float .f64 v.flt, .string v.text, .slice A 2 cap]) (t := 27) rfl)
  go_enter Try.func95, Try.ntmps95
  go_wp2_with fail
  go_loopw [5, 11] (fun x y wr => ∃ i : Nat, y = .int .i64 (i : Int) ∧ i ≤ 2 ∧ OwnI wr (w.heap.size + 1) x (ks.take i) ∧ Ext (w.alloc (.cells #[.int .i64 11, .int .i64 r, .int .i64 c, .int .i64 v.kind, .int .i64 v.int, .float .f64 v.flt, .string v.text, .slice A 2 cap] 27)) wr) (fun _ y _ => 2 - (intOf y).toNat)
  case atStart => exact ⟨0, rfl, by omega, OwnI.nil _ _, Ext.refl _⟩
  case round =>
    rename_i hrel
    obtain ⟨i, rfl, hi, hrow, hE⟩ := hrel
    have HROW := Lib.hid hrow; have HEB := Lib.hid hE; have HE := Lib.hid (((Ext.refl w).alloc _).trans hE)
    clear hrow hE
    by_cases hlt : i < 2
    · have hlt' : (i : Int) < ((2 : Nat) : Int) := by omega
      have hI : (i : Int) ≤ 1000 := by omega
      have HTAKE := Lib.hid (row_take (ks := ks) (i := i) (by omega))
      have hlen : (ks.take i).length ≤ 1000000000 := by rw [List.length_take]; omega
      have HLEN := Lib.hid hlen; clear hlen
      have hsz : w.heap.size + 1 ≤ (wr.alloc (.cells #[] 0)).heap.size := by have := HEB.out.size; simp at this; simp; omega
      obtain ⟨g, o, e, A', cap', rfl, HAT, HCALL⟩ := HKIDS.out i hlt
      unfold Ex.cells exCells at HAT HCALL
      dsimp only at HCALL
      generalize ks.getD i 0 = q at *
      go_wp2_with (first
        | (refine wpList_wish rfl fun K hK => wp_idxS (i := i) Try.underlying25 size_ex (.tmp 9) _ rfl rfl rfl hlt (hK _ _ ?_))
        | (refine wpList_wish rfl fun K hK => wp_loadA (vs := [.int .i64 e.kind, .int .i64 e.rel, .int .i64 e.col, .int .i64 e.const.kind, .int .i64 e.const.int, .float .f64 e.const.flt, .string e.const.text, .slice A' e.kids.length cap']) agg_ex (.tmp 13) rfl rfl (HAT.out _ (HE.out)) (hK _ _ ?_))
        | (refine wpList_wish rfl fun K hK => wp_loadA (vs := [.int .i64 e.kind, .int .i64 e.rel, .int .i64 e.col, .int .i64 e.const.kind, .int .i64 e.const.int, .float .f64 e.const.flt, .string e.const.text, .slice A' e.kids.length cap']) agg_ex (.tmp 7) rfl rfl (At.new rfl _ _ _ rfl) (hK _ _ ?_))
        | (go_at_call 95; refine (HCALL.out _ (HE.out.trans ((Ext.refl _).alloc _))).mono ?_; rintro ev w2 ⟨rfl, hb⟩; have HB := Lib.hid hb; clear hb)
        | (at_builtin; refine wpList_addI rfl (.tmp 15) (.tmp 19) rfl rfl (HROW.out.ext (((Ext.refl _).alloc _).trans HB.out)) q rfl rfl HLEN.out (by have := HB.out.size; simp at this hsz; omega) ?_; intro v5 w5 ho5 hw5; have HO5 := Lib.hid ho5; have HW5 := Lib.hid hw5; clear ho5 hw5))
      refine ⟨⟨i + 1, by simp, by omega, by rw [← HTAKE.out]; exact HO5.out, (HEB.out.trans (((Ext.refl _).alloc _).trans HB.out)).trans_wr HW5.out (by simp)⟩, by simp [intOf] <;> omega⟩
    · have hlt' : ¬ ((i : Int) < ((2 : Nat) : Int)) := by omega
      obtain rfl : i = 2 := by omega
      have hbx := (h0.out.ext HEB.out).cells
      obtain ⟨bx0, bx1, bx2, bx3, _⟩ := hbx
      have HBX := Lib.hid (h0.out.ext HEB.out)
      clear bx1 bx2
      clear bx3
      obtain ⟨rg, rcap, rfl, hrg, hcells⟩ := HROW.out.get (by rw [List.take_of_length_le (by omega)]; intro e; rw [e] at hks; simp at hks)
      have hl9 : (ks.take 2).length = 2 := by rw [List.length_take]; omega
      rw [hl9]; clear hl9
      have y0 : wr.cell? ⟨rg, 0, none⟩ = some (.int .i64 (ks.getD 0 0)) := hcells 0 _ (by rw [List.take_of_length_le (by omega), List.getD_eq_getElem?_getD, List.getElem?_eq_getElem (by omega)]; rfl)
      have y1 : wr.cell? ⟨rg, 1, none⟩ = some (.int .i64 (ks.getD 1 0)) := hcells 1 _ (by rw [List.take_of_length_le (by omega), List.getD_eq_getElem?_getD, List.getElem?_eq_getElem (by omega)]; rfl)
      clear hcells
      generalize ks.getD 0 0 = q0 at *
      generalize ks.getD 1 0 = q1 at *
      go_wp2_with fail
      go_still_tail 6, (by kernel_rfl)
      change wpList _ _ _ _ _ wr.drew
      have HED := Lib.hid (HE.out.drew)
      generalize wr.drew = wd at *
      rcases HE50.out with hq | hq
      · have HQ := Lib.hid hq; clear hq
        go_wp2_with (go_at_call 137; refine (HONE.out _).mono ?_; rintro ev w3 ⟨h, rfl⟩; obtain rfl := TyR.ok HQ.out h; clear h)
        go_ret
        exact ⟨by unfold TyR boolR; rw [if_pos HQ.out, if_pos rfl]; rfl, HED.out⟩
      · have HQ : Hid (z.2 ≠ 0) := Lib.hid (by omega)
        clear hq
        go_wp2_with (go_at_call 137; refine (HONE.out _).mono ?_; rintro ev w3 ⟨h, rfl⟩; obtain rfl := TyR.bad HQ.out h; clear h)
        exact ⟨rfl, by unfold TyR boolR; rw [if_neg HQ.out, if_neg HQ.out], HED.out⟩
end Go.Proofs.Ytlcdjaclahhdnaa
