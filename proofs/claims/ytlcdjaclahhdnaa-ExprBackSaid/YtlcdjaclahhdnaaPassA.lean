/- The call of access.May, whatever the condition. The call of access.passes. Printed by wip/tools/gen_pass.py. The call of access.Passed. Printed by wip/tools/gen_passed.py. access.Scan: what it tells, as plain data; tuples in memory. Printed by wip/tools/gen_scan.py. -/
import Derived.Test.YtlcdjaclahhdnaaMay
import Derived.Test.YtlcdjaclahhdnaaZoneA
import Derived.Test.YtlcdjaclahhdnaaHolds
import Derived.Laws.OwnMore
import Derived.Laws.AppendOwn
namespace Go.Proofs.Ytlcdjaclahhdnaa
open Go.RowKit
set_option linter.unusedSimpArgs false
set_option linter.unusedVariables false
attribute [local irreducible] wpQuiet wpList Code.wp

theorem wf_col {e : Ex} (h : e.wf = true) : 0 ≤ e.col := by
  cases e with
  | mk k r c v l =>
    simp only [Ex.wf, Bool.and_eq_true, decide_eq_true_eq] at h
    obtain ⟨⟨_, hf⟩, _⟩ := h
    show 0 ≤ c
    unfold fieldsOk at hf
    split at hf
    · cases hf
    · rename_i h
      simp only [inRel, Bool.and_eq_false_iff, decide_eq_false_iff_not] at h
      omega
theorem wf_kids {k r c : Int} {v : Val} {l : List Ex} (h : (Ex.mk k r c v l).wf = true) : kidsOf k = (l.length : Int) ∧ ∀ e ∈ l, e.wf = true := by
  simp only [Ex.wf, Bool.and_eq_true, decide_eq_true_eq] at h
  exact ⟨h.1.1, (Exs.wf_iff l).1 h.2⟩
theorem list_two {α : Type} {l : List α} (h : l.length = 2) : ∃ a b, l = [a, b] := by
  match l, h with
  | [a, b], _ => exact ⟨a, b, rfl⟩
theorem list_one {α : Type} {l : List α} (h : l.length = 1) : ∃ a, l = [a] := by
  match l, h with
  | [a], _ => exact ⟨a, rfl⟩
theorem may_of (zr rel : Int) (cols : List Rng) (zs : Value) (e : Ex) (es : Value) (w : World) (hz : RngsIn w zs cols) (he : Ex.In w e es) :
    Calls Try.prog 47 #[.agg #[.int .i64 zr, zs], .int .i64 rel, .agg (e.cells es).toArray] w fun ev w' => ev = .returned (.bool (e.may zr cols rel)) ∧ Ext w w' := by
  cases e with
  | mk k r c v l =>
    show Calls Try.prog 47 #[.agg #[.int .i64 zr, zs], .int .i64 rel, .agg (exCells k r c v es).toArray] w fun ev w' => ev = .returned (.bool ((Ex.mk k r c v l).may zr cols rel)) ∧ Ext w w'
    unfold Ex.may
    by_cases hf : 0 ≤ (Ex.mk k r c v l).count 1 400
    · rw [if_neg (by simpa using hf)]
      obtain ⟨hk, hl⟩ := wf_kids (Ex.count_wf _ 1 400 hf)
      by_cases h7 : k = 7 ∨ k = 8 ∨ k = 9
      · have h2 : l.length = 2 := by
          have : kidsOf k = 2 := by rcases h7 with rfl | rfl | rfl <;> decide
          omega
        obtain ⟨a, b, rfl⟩ := list_two h2
        simp only [if_pos h7]
        exact may_cmp zr rel cols zs k r c v [a, b] es w hz he a b rfl hf h7 (wf_col (hl a (by simp))) (wf_col (hl b (by simp)))
      · simp only [if_neg h7]
        by_cases h13 : k = 13
        · have h1 : l.length = 1 := by
            have : kidsOf k = 1 := by rw [h13]; decide
            omega
          obtain ⟨a, rfl⟩ := list_one h1
          simp only [if_pos h13]
          exact may_null zr rel cols zs k r c v [a] es w hz he a rfl hf h13 (wf_col (hl a (by simp)))
        · simp only [if_neg h13]
          by_cases h12 : k = 12
          · have h1 : l.length = 1 := by
              have : kidsOf k = 1 := by rw [h12]; decide
              omega
            obtain ⟨x, rfl⟩ := list_one h1
            simp only [if_pos h12]
            cases x with
            | mk kx rx cx vx lx =>
              by_cases hx : kx = 13
              · obtain ⟨hkx, hlx⟩ := wf_kids (hl _ (by simp) : (Ex.mk kx rx cx vx lx).wf = true)
                have h1x : lx.length = 1 := by
                  have : kidsOf kx = 1 := by rw [hx]; decide
                  omega
                obtain ⟨a, rfl⟩ := list_one h1x
                subst hx
                exact may_not_yes zr rel cols zs k r c v [.mk 13 rx cx vx [a]] es w hz he rx cx vx a rfl hf h12 (wf_col (hlx a (by simp)))
              · refine (may_not_no zr rel cols zs k r c v [.mk kx rx cx vx lx] es w hz he kx rx cx vx lx rfl hf h12 hx).mono fun ev w' h => ⟨?_, h.2⟩
                rw [h.1]
                split
                · rename_i h
                  simp only [List.cons.injEq, Ex.mk.injEq, and_true] at h
                  exact absurd h.1 hx
                · rfl
          · simp only [if_neg h12]
            exact may_else zr rel cols zs k r c v l es w hz he hf h7 h13 h12
    · rw [if_pos (by simpa using hf)]
      exact may_bad zr rel cols zs k r c v l es w hz he hf
end Go.Proofs.Ytlcdjaclahhdnaa
namespace Go.Proofs.Ytlcdjaclahhdnaa
open Go.RowKit
set_option linter.unusedSimpArgs false
set_option linter.unusedVariables false
attribute [local irreducible] wpQuiet wpList Code.wp

/-- Is a stretch passed over? -/
def passes (rows : List (List Val)) (rel : Int) : List Ex → Bool
  | [] => false
  | e :: _ => !(e.may (rows.length : Int) (colsR rows 40) rel)
theorem colsR_ok {rows : List (List Val)} (h : ∀ r ∈ rows, ∀ v ∈ r, v.Ok) (n : Nat) : ∀ g ∈ colsR rows n, g.Ok := by
  intro g hg
  obtain ⟨i, -, rfl⟩ := List.mem_map.1 hg
  exact rgAt_ok h i
set_option maxRecDepth 100000 in
set_option maxHeartbeats 4000000 in
theorem passes_of (rows : List (List Val)) (rv : Value) (rel : Int) (l : List Ex) (x : Value) (w : World) (hrows : RowsIn w rv rows) (hrl : rows.length ≤ 1000000) (hx : ExsIn w x l) :
    Calls Try.prog 107 #[rv, .int .i64 rel, x] w fun ev w' => ev = .returned (.bool (passes rows rel l)) ∧ Ext w w' := by
  obtain ⟨RA, rc, rfl, -⟩ := hrows.val
  cases l with
  | nil =>
    obtain ⟨-, XA, xc, rfl, -⟩ := hx
    clear hrows
    go_enter Try.func107, Try.ntmps107
    go_wp2_with fail
    refine wp_region_ext (by kernel_rfl) (by kernel_rfl) ?_; (repeat (first | (refine wpQuiet_step (fun K hK => ?_); go_simp; refine hK _ ?_; clear hK K)  | (refine wpQuiet_step (fun K hK => ?_); go_simp; first | (refine ⟨_, fun w hw => rfl, hK _ ?_⟩; clear hK K)))); refine wpQuiet_nil ?_
    intro wd hE
    go_wp2_with fail
    go_ret
    exact ⟨rfl, hE⟩
  | cons e l =>
    obtain ⟨-, XA, xc, rfl, -⟩ := (⟨hx.1, hx.2⟩ : (e :: l).length ≤ 9223372036854775807 ∧ _)
    obtain ⟨g, o, s1, rfl, -, hat, hie, hg⟩ := hx.get 0 (by simp)
    obtain ⟨-, A1, c1, rfl, -⟩ := hie.mk_inv.2.2.2.2
    have HLE : Hid (∀ u, Ext w u → At u g (o + 0 * 8) [.int .i64 e.kind, .int .i64 e.rel, .int .i64 e.col, .int .i64 e.const.kind, .int .i64 e.const.int, .float .f64 e.const.flt, .string e.const.text, .slice A1 e.kids.length c1]) := Lib.hid fun u h => hat.ext h hg
    have HZO : Hid (∀ u, Ext w u → Calls Try.prog 101 #[.slice RA rows.length rc, .int .i64 40] u fun e w' => ∃ A c, e = .returned (.agg #[.int .i64 (rows.length : Int), .slice A 40 c]) ∧ OwnR w' u.heap.size (.slice A 40 c) (colsR rows 40) ∧ Ext u w') := Lib.hid fun u h => zone_of rows _ 40 u (hrows.ext h) (by decide) hrl
    have HMA : Hid (∀ u s, Ext w u → RngsIn u s (colsR rows 40) → Calls Try.prog 47 #[.agg #[.int .i64 (rows.length : Int), s], .int .i64 rel, .agg #[.int .i64 e.kind, .int .i64 e.rel, .int .i64 e.col, .int .i64 e.const.kind, .int .i64 e.const.int, .float .f64 e.const.flt, .string e.const.text, .slice A1 e.kids.length c1]] u fun ev w' => ev = .returned (.bool (e.may (rows.length : Int) (colsR rows 40) rel)) ∧ Ext u w') := Lib.hid fun u s h hs => may_of _ rel _ s e _ u hs (Ex.In.ext h _ _ hie)
    have HOK := Lib.hid (colsR_ok (rows_ok hrows) 40)
    clear hx hat hie hrows
    have hlen : ¬ ((e :: l).length : Int) ≤ 0 := by simp
    show Calls Try.prog 107 _ w fun ev w' => ev = .returned (.bool (!(e.may (rows.length : Int) (colsR rows 40) rel))) ∧ Ext w w'
    generalize e.may (rows.length : Int) (colsR rows 40) rel = m at *
    generalize hn : (e :: l).length = n at *
    have hn0 : 0 < n := by rw [← hn]; simp
    clear hn hlen
    have q0 : decide ((0 : Int) < (n : Int)) = true := by simp; omega
    go_enter Try.func107, Try.ntmps107
    go_upto_region 1 with fail
    refine wp_region_held (S := Ext w) (by kernel_rfl) ?_
    change wpAnyH _ _ _ _ _ _ _ _ w.drew
    have HS0 : Hid (Ext w w.drew) := Lib.hid (Ext.refl _).drew
    refine held_run (i := 0) (.slice (some ⟨g, o, none⟩) n xc) rfl (by kernel_rfl) (by kernel_rfl) (by kernel_rfl) (fun _ _ _ h => h) rfl (fun u _ => by go_simp) HS0.out ?_
    simp only [Act.put, List.setIfInBounds_toArray, List.set_cons_zero, List.set_cons_succ]
    refine held_run (i := 1) (.int .i64 (n : Int)) rfl (by kernel_rfl) (by kernel_rfl) (by kernel_rfl) (fun _ _ _ h => h) rfl (fun u _ => by go_simp) HS0.out ?_
    simp only [Act.put, List.setIfInBounds_toArray, List.set_cons_zero, List.set_cons_succ]
    refine held_run (i := 2) (.bool true) rfl (by kernel_rfl) (by kernel_rfl) (by kernel_rfl) (fun _ _ _ h => h) rfl (fun u _ => by first | (go_simp; done) | (go_simp; simp; omega)) HS0.out ?_
    simp only [Act.put, List.setIfInBounds_toArray, List.set_cons_zero, List.set_cons_succ]
    refine held_run (i := 3) (.bool true) rfl (by kernel_rfl) (by kernel_rfl) (by kernel_rfl) (fun _ _ _ h => h) rfl (fun u _ => by go_simp) HS0.out ?_
    simp only [Act.put, List.setIfInBounds_toArray, List.set_cons_zero, List.set_cons_succ]
    refine held_run (i := 4) (.slice RA rows.length rc) rfl (by kernel_rfl) (by kernel_rfl) (by kernel_rfl) (fun _ _ _ h => h) rfl (fun u _ => by go_simp) HS0.out ?_
    simp only [Act.put, List.setIfInBounds_toArray, List.set_cons_zero, List.set_cons_succ]
    refine held_run (i := 6) (.int .i64 rel) rfl (by kernel_rfl) (by kernel_rfl) (by kernel_rfl) (fun _ _ _ h => h) rfl (fun u _ => by go_simp) HS0.out ?_
    simp only [Act.put, List.setIfInBounds_toArray, List.set_cons_zero, List.set_cons_succ]
    refine held_run (i := 7) (.slice (some ⟨g, o, none⟩) n xc) rfl (by kernel_rfl) (by kernel_rfl) (by kernel_rfl) (fun _ _ _ h => h) rfl (fun u _ => by go_simp) HS0.out ?_
    simp only [Act.put, List.setIfInBounds_toArray, List.set_cons_zero, List.set_cons_succ]
    refine held_idxS (i := 8) 0 (.tmp 14) (.const (.int .i64 0)) rfl rfl (by kernel_rfl) (by kernel_rfl) (by kernel_rfl) (fun _ _ _ h => h) rfl Try.underlying25 size_ex rfl rfl hn0 HS0.out ?_
    simp only [Act.put, List.setIfInBounds_toArray, List.set_cons_zero, List.set_cons_succ]
    refine held_loadA (i := 9) (vs := [.int .i64 e.kind, .int .i64 e.rel, .int .i64 e.col, .int .i64 e.const.kind, .int .i64 e.const.int, .float .f64 e.const.flt, .string e.const.text, .slice A1 e.kids.length c1]) (.tmp 15) rfl rfl (by kernel_rfl) (by kernel_rfl) (by kernel_rfl) (fun _ _ _ h => h) rfl agg_ex rfl (fun u h => HLE.out u h) HS0.out ?_
    simp only [Act.put, List.setIfInBounds_toArray, List.set_cons_zero, List.set_cons_succ]
    refine held_do (i := 5) rfl (by kernel_rfl) rfl fun K hK => ?_
    refine wp_callF (fun y w' => ∃ A c, y = .agg #[.int .i64 (rows.length : Int), .slice A 40 c] ∧ OwnR w' w.drew.heap.size (.slice A 40 c) (colsR rows 40) ∧ Ext w.drew w') (fun u => by go_simp) ((HZO.out w.drew HS0.out).mono fun e w' ⟨A, c, h1, h2, h3⟩ => ⟨_, h1, A, c, rfl, h2, h3⟩) ?_
    rintro _ w5 ⟨A9, c9, rfl, ho5, he5⟩
    refine hK _ _ (HS0.out.trans he5) ?_
    try simp only [Act.put, List.setIfInBounds_toArray, List.set_cons_zero, List.set_cons_succ]
    clear hK K
    refine held_do (i := 10) rfl (by kernel_rfl) rfl fun K hK => ?_
    refine wp_callF (fun y w' => y = .bool m ∧ Ext w5 w') (fun u => by go_simp) ((HMA.out w5 _ (HS0.out.trans he5) (RngsIn.of_own ho5 HOK.out (by rw [colsR_length]; decide))).mono fun e w' h => ⟨_, h.1, rfl, h.2⟩) ?_
    rintro _ w6 ⟨rfl, he6⟩
    refine hK _ _ ((HS0.out.trans he5).trans he6) ?_
    try simp only [Act.put, List.setIfInBounds_toArray, List.set_cons_zero, List.set_cons_succ]
    clear hK K
    have HS6 : Hid (Ext w w6) := Lib.hid ((HS0.out.trans he5).trans he6)
    refine held_run (i := 11) (.bool (!m)) rfl (by kernel_rfl) (by kernel_rfl) (by kernel_rfl) (fun _ _ _ h => h) rfl (fun u _ => by go_simp) HS6.out ?_
    simp only [Act.put, List.setIfInBounds_toArray, List.set_cons_zero, List.set_cons_succ]
    refine held_run (i := 12) (.bool (!m)) rfl (by kernel_rfl) (by kernel_rfl) (by kernel_rfl) (fun _ _ _ h => h) rfl (fun u _ => by go_simp) HS6.out ?_
    simp only [Act.put, List.setIfInBounds_toArray, List.set_cons_zero, List.set_cons_succ]
    refine held_run (i := 13) (.bool (!m)) rfl (by kernel_rfl) (by kernel_rfl) (by kernel_rfl) (fun _ _ _ h => h) rfl (fun u _ => by go_simp) HS6.out ?_
    simp only [Act.put, List.setIfInBounds_toArray, List.set_cons_zero, List.set_cons_succ]
    refine wpAnyH_done (by kernel_rfl) ?_ _
    go_wp2_with fail
    go_ret
    exact ⟨rfl, HS6.out⟩
end Go.Proofs.Ytlcdjaclahhdnaa
namespace Go.Proofs.Ytlcdjaclahhdnaa
open Go.RowKit
set_option linter.unusedSimpArgs false
set_option linter.unusedVariables false
attribute [local irreducible] wpQuiet wpList Code.wp
attribute [local go_sem] Oper.semAt_some

/-- How many rows of the k-th stretch are passed over. -/
def passK (rows : List (List Val)) (rel : Int) (l : List Ex) (k : Nat) : Nat := if passes (chunkR rows k) rel l = true then (chunkR rows k).length else 0
def sumK (rows : List (List Val)) (rel : Int) (l : List Ex) : List Nat → Nat
  | [] => 0
  | k :: ks => passK rows rel l k + sumK rows rel l ks
theorem sumK_snoc (rows : List (List Val)) (rel : Int) (l : List Ex) : ∀ (ks : List Nat) (k : Nat), sumK rows rel l (ks ++ [k]) = sumK rows rel l ks + passK rows rel l k
  | [], k => by simp [sumK]
  | a :: ks, k => by
    have := sumK_snoc rows rel l ks k
    simp only [List.cons_append, sumK, this]; omega
theorem sumK_le (rows : List (List Val)) (rel : Int) (l : List Ex) : ∀ ks : List Nat, sumK rows rel l ks ≤ ks.length * 16
  | [] => by simp [sumK]
  | a :: ks => by
    have := sumK_le rows rel l ks
    have h : passK rows rel l a ≤ 16 := by
      unfold passK; split
      · rw [chunkR_length]; omega
      · omega
    simp only [sumK, List.length_cons]; omega
def passed (rows : List (List Val)) (rel : Int) (l : List Ex) : Nat := sumK rows rel l (List.range ((rows.length + 15) / 16))

set_option maxRecDepth 100000 in
set_option maxHeartbeats 8000000 in
theorem passed_of (rows : List (List Val)) (rv : Value) (rel : Int) (l : List Ex) (x : Value) (w : World) (hrows : RowsIn w rv rows) (hrl : rows.length ≤ 1000000) (hx : ExsIn w x l) :
    Calls Try.prog 99 #[rv, .int .i64 rel, x] w fun ev w' => ev = .returned (.int .i64 (passed rows rel l : Int)) ∧ Ext w w' := by
  obtain ⟨RA, rc, rfl, hrc, hrn, hra⟩ := hrows.val
  obtain ⟨-, XA, xc, rfl, -⟩ := (⟨hx.1, hx.2⟩ : l.length ≤ 9223372036854775807 ∧ _)
  have HRW : Hid (∀ u, Ext w u → RowsIn u (.slice RA rows.length rc) rows) := Lib.hid fun u h => hrows.ext h
  have HXW : Hid (∀ u, Ext w u → ExsIn u (.slice XA l.length xc) l) := Lib.hid fun u h => hx.ext h
  have HS : Hid (rows.length ≠ 0 → ∃ g o, RA = some ⟨g, o, none⟩) := Lib.hid fun h => by
    obtain ⟨g, o, h1, -⟩ := hra (fun e => by subst e; exact h rfl)
    exact ⟨g, o, h1⟩
  clear hrows hra hrn hx
  refine (callsIn_wide (n := 3)).1 ?_
  refine callsIn_of_wp_marks Try.func99 rfl trivial ?_ rfl
  simp only [Try.ntmps99, List.size_toArray, List.length_cons, List.length_nil, Nat.reduceAdd, Nat.reduceSub, Array.replicate_succ, Array.replicate_zero, List.push_toArray, List.append_toArray, List.nil_append, List.cons_append]
  refine wpIn_wide.2 ?_
  go_wp2_with (go_at_call 100; refine (chunk_of _ _ _ _).mono ?_; rintro e w2 ⟨rfl, rfl⟩)
  have hb0 : BoxAt (((((w.alloc (.cells #[.int .i64 rel] 3)).alloc (.cells #[.slice XA l.length xc] 25)).alloc (.cells #[.int .i64 0] 3)).alloc (.cells #[.slice RA rows.length rc] 50)).alloc (.cells #[.int .i64 16] 3)) (w.heap.size) [.int .i64 rel] := ((((BoxAt.new rfl rfl).ext ((Ext.refl _).alloc _)).ext ((Ext.refl _).alloc _)).ext ((Ext.refl _).alloc _)).ext ((Ext.refl _).alloc _)
  have hb1 : BoxAt (((((w.alloc (.cells #[.int .i64 rel] 3)).alloc (.cells #[.slice XA l.length xc] 25)).alloc (.cells #[.int .i64 0] 3)).alloc (.cells #[.slice RA rows.length rc] 50)).alloc (.cells #[.int .i64 16] 3)) (w.heap.size + 1) [.slice XA l.length xc] := (((BoxAt.new (by simp) rfl).ext ((Ext.refl _).alloc _)).ext ((Ext.refl _).alloc _)).ext ((Ext.refl _).alloc _)
  have hb2 : BoxAt (((((w.alloc (.cells #[.int .i64 rel] 3)).alloc (.cells #[.slice XA l.length xc] 25)).alloc (.cells #[.int .i64 0] 3)).alloc (.cells #[.slice RA rows.length rc] 50)).alloc (.cells #[.int .i64 16] 3)) (w.heap.size + 1 + 1) [.int .i64 0] := ((BoxAt.new (by simp) rfl).ext ((Ext.refl _).alloc _)).ext ((Ext.refl _).alloc _)
  have hb3 : BoxAt (((((w.alloc (.cells #[.int .i64 rel] 3)).alloc (.cells #[.slice XA l.length xc] 25)).alloc (.cells #[.int .i64 0] 3)).alloc (.cells #[.slice RA rows.length rc] 50)).alloc (.cells #[.int .i64 16] 3)) (w.heap.size + 1 + 1 + 1) [.slice RA rows.length rc] := (BoxAt.new (by simp) rfl).ext ((Ext.refl _).alloc _)
  have hb4 : BoxAt (((((w.alloc (.cells #[.int .i64 rel] 3)).alloc (.cells #[.slice XA l.length xc] 25)).alloc (.cells #[.int .i64 0] 3)).alloc (.cells #[.slice RA rows.length rc] 50)).alloc (.cells #[.int .i64 16] 3)) (w.heap.size + 1 + 1 + 1 + 1) [.int .i64 16] := BoxAt.new (by simp) rfl
  have hb5 : Ext w (((((w.alloc (.cells #[.int .i64 rel] 3)).alloc (.cells #[.slice XA l.length xc] 25)).alloc (.cells #[.int .i64 0] 3)).alloc (.cells #[.slice RA rows.length rc] 50)).alloc (.cells #[.int .i64 16] 3)) := (((((Ext.refl _).alloc _).alloc _).alloc _).alloc _).alloc _
  refine name_worldA (fun u => BoxAt u (w.heap.size) [.int .i64 rel] ∧ BoxAt u (w.heap.size + 1) [.slice XA l.length xc] ∧ BoxAt u (w.heap.size + 1 + 1) [.int .i64 0] ∧ BoxAt u (w.heap.size + 1 + 1 + 1) [.slice RA rows.length rc] ∧ BoxAt u (w.heap.size + 1 + 1 + 1 + 1) [.int .i64 16] ∧ Ext w u) ⟨hb0, hb1, hb2, hb3, hb4, hb5⟩ ?_
  clear hb0 hb1 hb2 hb3 hb4 hb5
  rintro WL ⟨hb0, hb1, hb2, hb3, hb4, hb5⟩
  have HSZ : Hid (w.heap.size + 4 < WL.heap.size) := Lib.hid hb4.lt
  obtain ⟨g, o, hA, hstop⟩ := chunk_stops RA rows.length rc (w.heap.size + 1 + 1 + 1) (w.heap.size + 1 + 1 + 1 + 1) WL HS.out hrl hrc (by have := HSZ.out; omega) HSZ.out hb3.cells.1 hb4.cells.1
  refine (wpIn_wide (n := 3)).1 ?_
  refine wpIn_rangeFunc_ownG (F := Fence.wide) (n := 3) (w := WL) (w0 := WL) rfl (by decide) (gf := 142) (lb := #[.pointer (some ⟨w.heap.size + 1 + 1 + 1, 0, none⟩), .pointer (some ⟨w.heap.size + 1 + 1 + 1 + 1, 0, none⟩)]) rfl trivial (enters_of Try.func142 (by kernel_rfl) rfl)
    (hstop 2 (by decide)) (fun h k => h.trans k) (fun W l o o' hl ho hc _ => ⟨World.putObj_heap_other (by have := HSZ.out; omega), World.putObj_heap_other (by have := HSZ.out; omega)⟩) (Below.refl _ _) (fun _ => rfl)
    (fun pre W => (BoxAt W (w.heap.size) [.int .i64 rel] ∧ BoxAt W (w.heap.size + 1) [.slice XA l.length xc] ∧ BoxAt W (w.heap.size + 1 + 1) [.int .i64 (sumK rows rel l pre : Int)] ∧ WL.heap.size ≤ W.heap.size) ∧ Ext w W)
    (fun _ _ _ => False)
    ?own (fun _ _ _ _ _ hs _ _ => hs) ⟨⟨hb0, hb1, hb2, Nat.le_refl _⟩, hb5⟩
    (fun x => { tmps := #[.slice RA rows.length rc, .int .i64 rel, .slice XA l.length xc, undef, .pointer (some ⟨w.heap.size, 0, none⟩), .pointer (some ⟨w.heap.size + 1, 0, none⟩), .int .i64 0, .pointer (some ⟨w.heap.size + 1 + 1, 0, none⟩), chunkV g o rows.length x, .slice RA rows.length rc, .func (.func 142) #[] #[.pointer (some ⟨w.heap.size + 1 + 1 + 1, 0, none⟩), .pointer (some ⟨w.heap.size + 1 + 1 + 1 + 1, 0, none⟩)], chunkV g o rows.length x, undef, undef, undef, undef, undef, undef, undef, undef, undef], defers := [] }) ?assign ?body ?done ?stop
  case own =>
    refine OwnFrom.and (own_keep _ ?_) (ownFrom_below (Nat.le_refl _) (by have := HSZ.out; omega))
    intro s A B h hk
    exact ⟨hk.box h.1, hk.box h.2.1, hk.box h.2.2.1, Nat.le_trans h.2.2.2 hk.size⟩
  case assign =>
    intro l x W K hK
    gi_wp2
    exact hK
  case body =>
    rintro ll pre x W ⟨⟨h0, h1, h2, hwl⟩, hE⟩ hlt
    have hsm := sumK_le rows rel l pre
    have hcl : (chunkR rows x).length ≤ 16 := by rw [chunkR_length]; omega
    have HSN := Lib.hid (sumK_snoc rows rel l pre x)
    have hCK : chunkV g o rows.length x = .slice (some ⟨g, o + x * 16, none⟩) (chunkR rows x).length (chunkR rows x).length := by unfold chunkV; rw [chunkR_length]
    have HPS : Hid (∀ u, Ext W u → Calls Try.prog 107 #[.slice (some ⟨g, o + x * 16, none⟩) (chunkR rows x).length (chunkR rows x).length, .int .i64 rel, .slice XA l.length xc] u fun ev w' => ev = .returned (.bool (passes (chunkR rows x) rel l)) ∧ Ext u w') := Lib.hid fun u h => by
      have h9 := RowsIn.chunk' hA (HRW.out u (hE.trans h)) x
      rw [hCK] at h9
      exact passes_of (chunkR rows x) _ rel l _ u h9 (by omega) (HXW.out u (hE.trans h))
    rw [hCK]
    have HPK : Hid (passK rows rel l x = if passes (chunkR rows x) rel l = true then (chunkR rows x).length else 0) := Lib.hid rfl
    generalize passes (chunkR rows x) rel l = pb at *
    generalize (chunkR rows x).length = m at *
    generalize hsk : sumK rows rel l pre = sk at *
    clear hsk hCK
    have H0 := Lib.hid h0; have H1 := Lib.hid h1; have H2 := Lib.hid h2; have HE := Lib.hid hE; have HWL := Lib.hid hwl
    have c0 := h0.cells.1; have c1 := h1.cells.1
    have hlt' : pre.length ≤ 100000 := by omega
    clear h0 h1 h2 hE hwl
    have hw9 : wrap64 ((sk : Int) + (m : Int)) = ((sk + m : Nat) : Int) := by unfold wrap64; omega
    have hkf : ∀ u, Ext W u → KeepsFrom WL.heap.size W u := fun u h => keepOthers_buts _ (ButS.of_ext (M := fun _ => False) h) (fun k h => h.elim)
    have hkb : ∀ u, Ext W u → KB (w.heap.size + 1 + 1 + 1) (w.heap.size + 1 + 1 + 1 + 1) W u := fun u h => KB.of_ext h (by have := HSZ.out; have := HWL.out; omega) (by have := HSZ.out; have := HWL.out; omega)
    have HKF := Lib.hid hkf; have HKB := Lib.hid hkb
    clear hkf hkb
    cases pb
    · gi_wp2_with (refine ⟨trivial, ?_⟩; gi_at_call 107; refine (calls_in (HPS.out _ (Ext.refl _))).mono ?_; rintro ev w5 ⟨rfl, he5⟩)
      refine ⟨HKF.out _ he5, HKB.out _ he5, ⟨H0.out.ext he5, H1.out.ext he5, ?_, Nat.le_trans HWL.out he5.size⟩, HE.out.trans he5⟩
      rw [HSN.out, HPK.out]
      simpa using H2.out.ext he5
    · gi_wp2_with (refine ⟨trivial, ?_⟩; gi_at_call 107; refine (calls_in (HPS.out _ (Ext.refl _))).mono ?_; rintro ev w5 ⟨rfl, he5⟩; have HE5 := Lib.hid he5; have H25 := Lib.hid (H2.out.ext he5); have c2 := (H2.out.ext he5).cells.1; have f2 := (H2.out.ext he5).free 0; clear he5)
      have hq1 := H25.out.setAt9 (i := 0) (.int .i64 ((sk + m : Nat) : Int)) (by simp)
      have hq2 : But (w.heap.size + 1 + 1) w5 (w5.setCell ⟨w.heap.size + 1 + 1, 0, none⟩ (.int .i64 ((sk + m : Nat) : Int))) := But.set_ (p := ⟨w.heap.size + 1 + 1, 0, none⟩) (.inr rfl) _ (But.refl _ _)
      simp only [List.set_cons_zero] at hq1
      have hcast : ((sk + m : Nat) : Int) = (sk : Int) + (m : Int) := by omega
      rw [hcast] at hq1 hq2
      refine ⟨?_, ?_, ⟨But.box hq2 (by omega) (H0.out.ext HE5.out), But.box hq2 (by omega) (H1.out.ext HE5.out), ?_, Nat.le_trans HWL.out (Nat.le_trans HE5.out.size hq2.size)⟩, But.to_ext (HE.out.trans HE5.out) hq2 (by omega)⟩
      · refine (HKF.out _ HE5.out).trans (keepOthers_buts _ (ButS.of_but (M := fun k => k = w.heap.size + 1 + 1) hq2 rfl) (fun k h o ho => ?_))
        subst h
        obtain ⟨o', h1, h2⟩ := cell_block H25.out.cells.1
        rw [h1] at ho; cases ho; exact h2
      · refine (HKB.out _ HE5.out).trans ⟨hq2.block _ (by have := HSZ.out; have := HWL.out; have := HE5.out.size; omega) (by omega), hq2.block _ (by have := HSZ.out; have := HWL.out; have := HE5.out.size; omega) (by omega)⟩
      · rw [HSN.out, HPK.out]
        simp only [if_true]
        have e9 : ((sk + m : Nat) : Int) = (sk : Int) + (m : Int) := by omega
        rw [e9]; exact hq1
  case done =>
    rintro D ys W hD rfl ⟨⟨h0, h1, h2, hwl⟩, hE⟩ hK
    have hc1 := h2.cells.1
    go_wp2_with fail
    refine ⟨by simp, .inl ⟨_, _, rfl, run_takeDeferred hK, ?_⟩⟩
    exact ⟨_, results_tmp rfl _ _ _, rfl, (show Below w.heap.size w W from hE).trans (belowK_b (w := w) (Nat.le_refl _) W D _ _ (by have := HSZ.out; omega) hK rfl rfl)⟩
  case stop =>
    rintro D c pre W _ _ h _
    exact h.elim
end Go.Proofs.Ytlcdjaclahhdnaa
namespace Go.Proofs.Ytlcdjaclahhdnaa
open Go.RowKit
set_option linter.unusedSimpArgs false
set_option linter.unusedVariables false

theorem owns_isCells {w : World} {base : Nat} {Ty : TypeId} {size : Nat} {v : Value} {n : Nat} {xs : List Value} (h : w.ownsRow base Ty size v n xs) {k : Nat} (hk : v.ownBlock = some k) {o : Obj} (ho : w.heap[k]? = some o) : o.isCells = true := by
  rcases h.2 with ⟨rfl, _⟩ | ⟨g, c, cur, rfl, _, hh, _⟩
  · simp [Value.ownBlock] at hk
  · simp only [Value.ownBlock, Option.some.injEq] at hk
    subst hk
    rw [hh] at ho; cases ho; rfl
theorem owns_setAt {w : World} {base : Nat} {Ty : TypeId} {g n c i : Nat} {xs : List Value} (u : Value) (h : w.ownsRow base Ty 1 (.slice (some ⟨g, 0, none⟩) n c) n xs) (hi : i < n) : (w.setCell ⟨g, i, none⟩ u).ownsRow base Ty 1 (.slice (some ⟨g, 0, none⟩) n c) n (xs.set i u) := by
  refine ⟨by rw [List.length_set]; exact h.1, ?_⟩
  rcases h.2 with ⟨h1, _⟩ | ⟨g', cap, cur, h1, hb, hh, hc, hm, hs, ht⟩
  · cases h1
  · simp only [Value.slice.injEq, Option.some.injEq, Addr.mk.injEq, and_true, true_and] at h1
    obtain ⟨rfl, rfl⟩ := h1
    refine .inr ⟨g, c, cur.setIfInBounds i u, rfl, hb, ?_, hc, hm, by simpa using hs, ?_⟩
    · have hlt := (Array.getElem?_eq_some_iff.1 hh)
      obtain ⟨h2, h3⟩ := hlt
      show (w.heap.modify g _)[g]? = _
      rw [Array.getElem?_eq_getElem (by rw [Array.size_modify]; exact h2), Array.getElem_modify_self, h3]
      simp
    · rw [Array.toList_setIfInBounds, List.take_set, ht]
theorem wp_store1 {P : Program} {w : World} {o : Oper} {a : Act} {Q : Exit → Act → World → Prop} {K : Act → World → Prop} {t : TypeId} {g f : Nat} {u v : Value} (hu : u.cells = #[u]) (h1 : u.oneCell' = true) (hc : w.cell? ⟨g, f, none⟩ = some v) (hf : w.frozen? ⟨g, f, none⟩ = false) (hk : (P.info? t).map (·.size) = some 1) (x y : Operand) (ho : o.op = .store t x y)
    (hx : a.eval x = .pointer (some ⟨g, f, none⟩)) (hy : a.eval y = u) (h : K (a.put o.dst undef) (w.setCell ⟨g, f, none⟩ u)) : o.wp P a w K Q := by
  have hrun : (storeVar t ⟨g, f, none⟩ u).run P w = .ok () (w.setCell ⟨g, f, none⟩ u) := run_storeG (P := P) (w := w) (g := g) (f := f) (vs' := [u]) (va := u) (by rw [hu]) (by simpa using h1) hk (fun j hj => by
    have hj0 : j = 0 := by simpa using hj
    subst hj0
    exact ⟨by rw [Nat.add_zero, hc]; rfl, by rw [Nat.add_zero]; exact hf⟩)
  unfold Oper.wp execOp
  simp only [ho, hx, hy, Instr.storeAt, Instr.sureAddr, Sem.run_bind, Sem.run_pure, Result.andThen_ok, hrun]
  exact h
theorem slice_cells {A : Option Addr} {n c : Nat} : (Value.slice A n c).cells = #[.slice A n c] := rfl
theorem info_val9 : (Try.prog.info? 24).map (fun i => (i.zero.map (·.cells.size), i.size, i.bytes)) = some (some 4, 4, 40) := by kernel_rfl
/-- 'append([]api.Value{}, r...)'. -/
theorem wp_vals {w : World} {o : Oper} {a : Act} {Q : Exit → Act → World → Prop} {K : Act → World → Prop} (s x : Operand) (ho : o.op = .call { callee := .builtin .append, args := #[s, x], argTypes := #[59, 59] })
    {base : Nat} {v0 xv : Value} {row : List Val} (hs : a.eval s = v0) (hown : w.ownsRow base 24 4 v0 0 []) (hx : a.eval x = xv) (hv : ValsIn w xv row) (hl : row.length ≤ 1000000) (hbase : base ≤ w.heap.size)
    (h : ∀ A c w', w'.ownsRow base 24 4 (.slice A row.length c) row.length (vc row) → ButS (fun k => v0.ownBlock = some k) w w' → K (a.put o.dst (.slice A row.length c)) w') : o.wp Try.prog a w K Q := by
  obtain ⟨i, hi1, hi2⟩ := Option.map_eq_some_iff.1 info_val9
  simp only [Prod.mk.injEq] at hi2
  obtain ⟨z, hz1, hz2⟩ := Option.map_eq_some_iff.1 hi2.1
  obtain ⟨⟨A, c, rfl, hc, hn, hat⟩, hok⟩ := hv
  cases A with
  | none =>
    obtain rfl := hn rfl
    have h0 : row = [] := List.eq_nil_of_length_eq_zero (by omega)
    subst h0
    have hr := run_append_owned_none (P := Try.prog) w base 59 o.type 24 i 4 Try.underlying59 hi1 v0 0 [] hown
    obtain ⟨A', c', rfl⟩ := owns_shape hown
    unfold Oper.wp execOp
    simp only [List.length_nil] at hx
    simp only [ho, resolve, invoke, builtin, Sem.run_bind, Sem.run_pure, Result.andThen_ok, List.map_toArray, List.map_cons, List.map_nil, hs, hx, hr]
    exact h A' c' w (by simpa [vc] using hown) (ButS.refl _ _)
  | some ad =>
    have hcell : ∀ j u, (vc row)[j]? = some u → w.cell? (ad.add j) = some u := by
      intro j u hu
      by_cases hr : row = []
      · subst hr; simp [vc] at hu
      · obtain ⟨g, o', h1, h2⟩ := hat hr
        cases h1
        rw [add_at]; exact h2.get j u hu
    refine wp_append_own w s x 59 ho base 24 i z 4 40 Try.underlying59 hi1 hz1 hi2.2.1 hi2.2.2 hz2 (by decide) v0 0 [] hs hown ad row.length c (vc row) hx (vc_length _) hcell (vc_one _) (by unfold maxLen; omega) (by omega) hbase fun v' w' ho' hg' _ => ?_
    rw [Nat.zero_add, List.nil_append] at ho'
    obtain ⟨A', c', rfl⟩ := owns_shape ho'
    exact h A' c' w' ho' (ButS.of_grown hg' fun k hk => hk)
theorem results_cc {P : Program} {fn : Func} {p q : Tmp} {ty tz : TypeId} (h : fn.results = #[.cell p ty, .cell q tz]) {tmps : Array Value} {w : World} {g g' : Nat} {v v' : Value} {d d' : TypeDesc}
    (hu : P.underlying ty = some d) (hd : d.isRow = false) (hu' : P.underlying tz = some d') (hd' : d'.isRow = false)
    (hp : tmps.getD p undef = .pointer (some ⟨g, 0, none⟩)) (hq : tmps.getD q undef = .pointer (some ⟨g', 0, none⟩)) (hc : w.cell? ⟨g, 0, none⟩ = some v) (hc' : w.cell? ⟨g', 0, none⟩ = some v') : (results fn tmps).run P w = .ok (.tuple #[v, v']) w := by
  have hp' : tmps[p]?.getD undef = .pointer (some ⟨g, 0, none⟩) := by simpa using hp
  have hq' : tmps[q]?.getD undef = .pointer (some ⟨g', 0, none⟩) := by simpa using hq
  have h1 : ∀ {t : TypeId} {d : TypeDesc} {g : Nat} {v : Value}, P.underlying t = some d → d.isRow = false → w.cell? ⟨g, 0, none⟩ = some v → (loadVar t ⟨g, 0, none⟩).run P w = .ok v w := by
    intro t d g v hu hd hc
    have hagg : (isAgg t).run P w = .ok false w := by
      unfold isAgg
      rw [Sem.run_bind, run_underlying hu w]
      cases d <;> simp_all [TypeDesc.isRow]
    simp [loadVar, hagg, hc]
  simp [results, h, hp', hq', asAddr, h1 hu hd hc, h1 hu' hd' hc']
/-- The tuple of a row. -/
def tup (n rel : Nat) (row : List Val) : List (List Val) := (List.replicate n []).set rel row
/-- The rows for which all holds, or the first error. -/
def scanU (n rel : Nat) (l : List Ex) : List (List Val) → List (List Val) × Int
  | [] => ([], 0)
  | r :: rs => if (holds (tup n rel r) l).2 ≠ 0 then ([], (holds (tup n rel r) l).2)
    else if (scanU n rel l rs).2 = 0 then (if (holds (tup n rel r) l).1 = true then r :: (scanU n rel l rs).1 else (scanU n rel l rs).1, 0) else ([], (scanU n rel l rs).2)
theorem scanU_stop (n rel : Nat) (l : List Ex) : ∀ (p q : List (List Val)), (scanU n rel l p).2 ≠ 0 → scanU n rel l (p ++ q) = ([], (scanU n rel l p).2)
  | [], q, h => absurd rfl h
  | r :: p, q, h => by
    simp only [List.cons_append, scanU] at *
    by_cases h1 : (holds (tup n rel r) l).2 ≠ 0
    · simp only [if_pos h1]
    · simp only [if_neg h1] at h ⊢
      by_cases h2 : (scanU n rel l p).2 = 0
      · simp [h2] at h
      · have := scanU_stop n rel l p q h2
        simp only [this, if_neg h2]
theorem scanU_bad (n rel : Nat) (l : List Ex) : ∀ (p : List (List Val)), (scanU n rel l p).2 ≠ 0 → (scanU n rel l p).1 = []
  | [], h => absurd rfl h
  | r :: p, h => by
    simp only [scanU] at *
    by_cases h1 : (holds (tup n rel r) l).2 ≠ 0
    · simp only [if_pos h1]
    · simp only [if_neg h1] at h ⊢
      by_cases h2 : (scanU n rel l p).2 = 0
      · simp [h2] at h
      · simp only [if_neg h2]
theorem scanU_app (n rel : Nat) (l : List Ex) : ∀ (p q : List (List Val)), (scanU n rel l p).2 = 0 → scanU n rel l (p ++ q) = if (scanU n rel l q).2 = 0 then ((scanU n rel l p).1 ++ (scanU n rel l q).1, 0) else ([], (scanU n rel l q).2)
  | [], q, h => by
    simp only [List.nil_append, scanU]
    by_cases h2 : (scanU n rel l q).2 = 0
    · rw [if_pos h2, ← h2]
    · rw [if_neg h2]; exact Prod.ext (scanU_bad n rel l q h2) rfl
  | r :: p, q, h => by
    simp only [List.cons_append, scanU] at *
    by_cases h1 : (holds (tup n rel r) l).2 ≠ 0
    · simp only [if_pos h1] at h; exact absurd h h1
    · simp only [if_neg h1] at h ⊢
      have h2 : (scanU n rel l p).2 = 0 := Decidable.byContradiction fun h2 => by simp only [if_neg h2] at h; exact h2 h
      have := scanU_app n rel l p q h2
      by_cases h3 : (scanU n rel l q).2 = 0
      · rw [if_pos h3] at this
        simp only [this, if_pos h3, if_pos h2, if_true]
        by_cases h5 : (holds (tup n rel r) l).1 = true <;> simp [h5]
      · rw [if_neg h3] at this
        simp only [this, if_neg h3]
theorem scanU_one (n rel : Nat) (l : List Ex) (r : List Val) : scanU n rel l [r] = if (holds (tup n rel r) l).2 ≠ 0 then ([], (holds (tup n rel r) l).2) else (if (holds (tup n rel r) l).1 = true then [r] else [], 0) := by
  simp [scanU]
/-- The rows that are not passed over, of the chunks given. -/
def unp (rows : List (List Val)) (rel : Int) (l : List Ex) (ks : List Nat) : List (List Val) := ks.flatMap fun k => if passes (chunkR rows k) rel l = true then [] else chunkR rows k
def scanAll (rows : List (List Val)) (n rel : Nat) (l : List Ex) : List (List Val) × Int := scanU n rel l (unp rows (rel : Int) l (List.range ((rows.length + 15) / 16)))
theorem scanU_le (n rel : Nat) (l : List Ex) : ∀ p : List (List Val), (scanU n rel l p).1.length ≤ p.length
  | [] => by simp [scanU]
  | r :: p => by
    have := scanU_le n rel l p
    simp only [scanU, List.length_cons]
    split
    · simp
    · split
      · split
        · simp only [List.length_cons]; omega
        · show (scanU n rel l p).1.length ≤ _; omega
      · simp
theorem unp_le (rows : List (List Val)) (rel : Int) (l : List Ex) : ∀ ks : List Nat, (unp rows rel l ks).length ≤ ks.length * 16
  | [] => by simp [unp]
  | k :: ks => by
    have := unp_le rows rel l ks
    have h : (if passes (chunkR rows k) rel l = true then [] else chunkR rows k).length ≤ 16 := by
      split
      · simp
      · rw [chunkR_length]; omega
    simp only [unp, List.flatMap_cons, List.length_append, List.length_cons] at *
    omega
theorem keep_ext (B : Nat) {W W' : World} (h : Ext W W') : KeepsFrom B W W' := keepOthers_buts B (ButS.of_ext (M := fun _ => False) h) (fun k h => h.elim)
theorem unp_snoc (rows : List (List Val)) (rel : Int) (l : List Ex) (ks : List Nat) (k : Nat) : unp rows rel l (ks ++ [k]) = unp rows rel l ks ++ (if passes (chunkR rows k) rel l = true then [] else chunkR rows k) := by simp [unp]
/-- A tuple: a row of the call's own that holds rows of values, one of them a row of the call's own. -/
def TupAt (W : World) (base : Nat) (s : Value) (n rel : Nat) (row : List Val) : Prop :=
  ∃ q, W.ownsRow base 59 1 s n ((List.replicate n (.slice none 0 0)).set rel q) ∧ W.ownsRow base 24 4 q row.length (vc row) ∧ (∀ v ∈ row, v.Ok) ∧ row.length ≤ 9223372036854775807
theorem TupAt.ext {W W' : World} {base n rel : Nat} {s : Value} {row : List Val} (h : TupAt W base s n rel row) (he : Ext W W') : TupAt W' base s n rel row := by
  obtain ⟨q, h1, h2, h3⟩ := h
  exact ⟨q, owns_ext h1 he, owns_ext h2 he, h3⟩
theorem TupAt.keep {W W' : World} {base n rel : Nat} {s : Value} {row : List Val} (h : TupAt W base s n rel row) (he : KeepC W W') : TupAt W' base s n rel row := by
  obtain ⟨q, h1, h2, h3⟩ := h
  exact ⟨q, he.owns h1, he.owns h2, h3⟩
theorem TupAt.down {W : World} {base base' n rel : Nat} {s : Value} {row : List Val} (h : TupAt W base s n rel row) (hb : base' ≤ base) : TupAt W base' s n rel row := by
  obtain ⟨q, h1, h2, h3⟩ := h
  exact ⟨q, owns_down h1 hb, owns_down h2 hb, h3⟩
theorem TupAt.buts {M : Nat → Prop} {W W' : World} {base n rel : Nat} {s : Value} {row : List Val} (h : TupAt W base s n rel row) (hb : ButS M W W') (hm : ∀ k, M k → k < base) : TupAt W' base s n rel row := by
  obtain ⟨q, h1, h2, h3⟩ := h
  exact ⟨q, owns_buts h1 hb (fun g hg hM => by have := hm g hM; have := (owns_lt h1 hg).2; omega), owns_buts h2 hb (fun g hg hM => by have := hm g hM; have := (owns_lt h2 hg).2; omega), h3⟩
/-- Rows of tuples. -/
def OwnT (W : World) (base : Nat) (v : Value) (n rel : Nat) (rs : List (List Val)) : Prop :=
  ∃ ss : List Value, ss.length = rs.length ∧ W.ownsRow base 50 1 v rs.length ss ∧ ∀ (i : Nat) (s : Value) (r : List Val), ss[i]? = some s → rs[i]? = some r → TupAt W base s n rel r
theorem OwnT.nil (W : World) (base n rel : Nat) : OwnT W base (.slice none 0 0) n rel [] := ⟨[], rfl, owns_nil _ _ _ _, by simp⟩
theorem OwnT.ext {W W' : World} {base n rel : Nat} {v : Value} {rs : List (List Val)} (h : OwnT W base v n rel rs) (he : Ext W W') : OwnT W' base v n rel rs := by
  obtain ⟨ss, h1, h2, h3⟩ := h
  exact ⟨ss, h1, owns_ext h2 he, fun i s r hs hr => (h3 i s r hs hr).ext he⟩
theorem OwnT.keep {W W' : World} {base n rel : Nat} {v : Value} {rs : List (List Val)} (h : OwnT W base v n rel rs) (he : KeepC W W') : OwnT W' base v n rel rs := by
  obtain ⟨ss, h1, h2, h3⟩ := h
  exact ⟨ss, h1, he.owns h2, fun i s r hs hr => (h3 i s r hs hr).keep he⟩
theorem OwnT.down {W : World} {base base' n rel : Nat} {v : Value} {rs : List (List Val)} (h : OwnT W base v n rel rs) (hb : base' ≤ base) : OwnT W base' v n rel rs := by
  obtain ⟨ss, h1, h2, h3⟩ := h
  exact ⟨ss, h1, owns_down h2 hb, fun i s r hs hr => (h3 i s r hs hr).down hb⟩
theorem OwnT.shape {W : World} {base n rel : Nat} {v : Value} {rs : List (List Val)} (h : OwnT W base v n rel rs) : ∃ A c, v = .slice A rs.length c := by
  obtain ⟨ss, h1, h2, h3⟩ := h
  exact owns_shape h2
theorem OwnT.buts {M : Nat → Prop} {W W' : World} {base n rel : Nat} {v : Value} {rs : List (List Val)} (h : OwnT W base v n rel rs) (hb : ButS M W W') (hm : ∀ k, M k → k < base) : OwnT W' base v n rel rs := by
  obtain ⟨ss, h1, h2, h3⟩ := h
  exact ⟨ss, h1, owns_buts h2 hb (fun g hg hM => by have := hm g hM; have := (owns_lt h2 hg).2; omega), fun i s r hs hr => (h3 i s r hs hr).buts hb hm⟩
theorem TupAt.beside {W W' : World} {base n rel k : Nat} {s v : Value} {row : List Val} {ss : List Value} (h : TupAt W base s n rel row) (h2 : W.ownsRow base 50 1 v k ss) (hb : ButS (fun k => v.ownBlock = some k) W W') : TupAt W' base s n rel row := by
  obtain ⟨q, h1, h3, h4⟩ := h
  exact ⟨q, owns_buts h1 hb (owns_apart h1 h2 (by decide)), owns_buts h3 hb (owns_apart h3 h2 (by decide)), h4⟩
theorem OwnT.snoc {W W' : World} {base n rel : Nat} {v v' : Value} {rs : List (List Val)} {ss : List Value} {s : Value} {r : List Val} (h1 : ss.length = rs.length) (h2 : W.ownsRow base 50 1 v rs.length ss)
    (h3 : ∀ (i : Nat) (s : Value) (r : List Val), ss[i]? = some s → rs[i]? = some r → TupAt W base s n rel r) (hr : TupAt W base s n rel r) (ho : W'.ownsRow base 50 1 v' (rs.length + 1) (ss ++ [s])) (hb : ButS (fun k => v.ownBlock = some k) W W') : OwnT W' base v' n rel (rs ++ [r]) := by
  refine ⟨ss ++ [s], by simp [h1], by rw [List.length_append]; exact ho, fun i u q hu hq => ?_⟩
  rw [List.getElem?_append] at hq hu
  rw [h1] at hu
  split at hq
  · rename_i hi
    rw [if_pos hi] at hu
    exact (h3 i u q hu hq).beside h2 hb
  · rename_i hi
    rw [if_neg hi] at hu
    rcases Nat.eq_zero_or_pos (i - rs.length) with h0 | h0
    · rw [h0] at hq hu
      simp only [List.getElem?_cons_zero, Option.some.injEq] at hq hu
      subst hq hu
      exact hr.beside h2 hb
    · rw [List.getElem?_eq_none (by simp; omega)] at hq; cases hq
theorem vals_own {W : World} {base : Nat} {q : Value} {row : List Val} (h : W.ownsRow base 24 4 q row.length (vc row)) (ok : ∀ v ∈ row, v.Ok) : ValsIn W q row := by
  obtain ⟨A, c, rfl, h1, h2, h3, h4⟩ := owns_form h
  rcases h.2 with ⟨h5, h6⟩ | ⟨g, cap, cur, h5, _, _, h7, _⟩
  · simp only [Value.slice.injEq] at h5
    obtain ⟨rfl, h8, rfl⟩ := h5
    exact ⟨⟨none, 0, rfl, h1, fun _ => rfl, fun hn => absurd (List.eq_nil_of_length_eq_zero h6) hn⟩, ok⟩
  · simp only [Value.slice.injEq] at h5
    obtain ⟨rfl, _, rfl⟩ := h5
    refine ⟨⟨some ⟨g, 0, none⟩, c, rfl, h7, (fun h => by cases h), fun hn => ⟨g, 0, rfl, At.of_get fun j u hu => ?_⟩⟩, ok⟩
    obtain ⟨-, -, -, h10⟩ := h4 _ rfl
    exact h10 j u hu
/-- A tuple is a slice of rows. -/
theorem TupAt.rows {W : World} {base n rel : Nat} {s : Value} {row : List Val} (h : TupAt W base s n rel row) (hn : n ≤ 12) (hr : rel < n) : RowsIn W s (tup n rel row) := by
  obtain ⟨q, h1, h2, h3, h4⟩ := h
  have hl : (tup n rel row).length = n := by simp [tup]
  obtain ⟨A, c, rfl, h5, h6, h7, h8⟩ := owns_form h1
  rcases h1.2 with ⟨_, h9⟩ | ⟨g, cap, cur, h9, _, _, h11, _⟩
  · omega
  · simp only [Value.slice.injEq] at h9
    obtain ⟨rfl, _, rfl⟩ := h9
    obtain ⟨-, -, -, h10⟩ := h8 _ rfl
    refine ⟨⟨some ⟨g, 0, none⟩, c, by rw [hl], by rw [hl]; exact h5, (fun h => by cases h), fun _ => ⟨g, 0, rfl, fun i hi => ?_⟩⟩, by rw [hl]; omega, fun r hr' => ?_⟩
    · rw [hl] at hi
      by_cases hir : rel = i
      · subst hir
        refine ⟨q, h10 rel q (by rw [List.getElem?_set_self (by simpa using hi)]), ?_⟩
        have e1 : (tup n rel row)[rel]'(by rw [hl]; exact hi) = row := by simp [tup]
        rw [e1]; exact vals_own h2 h3
      · refine ⟨.slice none 0 0, h10 i _ (by rw [List.getElem?_set_ne hir, List.getElem?_replicate, if_pos hi]), ?_⟩
        have e1 : (tup n rel row)[i]'(by rw [hl]; exact hi) = [] := by simp [tup, List.getElem_set_ne hir]
        rw [e1]
        exact ⟨⟨none, 0, rfl, Nat.le_refl _, fun _ => rfl, fun h => absurd rfl h⟩, by simp⟩
    · rcases List.mem_or_eq_of_mem_set hr' with h | h
      · rw [List.eq_of_mem_replicate h]; simp
      · rw [h]; exact h4
theorem info_rows : (Try.prog.info? 50).map (fun i => (i.zero.map (·.cells.size), i.size, i.bytes)) = some (some 1, 1, 24) := by kernel_rfl
theorem size_tt : (Try.prog.info? 91).map (·.size) = some 1 := by kernel_rfl
end Go.Proofs.Ytlcdjaclahhdnaa
