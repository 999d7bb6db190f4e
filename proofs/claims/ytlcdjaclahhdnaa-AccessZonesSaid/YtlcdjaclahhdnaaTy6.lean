/- The call of expr.typed. The call of expr.Type. -/
import Derived.Test.YtlcdjaclahhdnaaTy5
import Derived.Test.YtlcdjaclahhdnaaGd
import Derived.Test.YtlcdjaclahhdnaaEval
namespace Go.Proofs.Ytlcdjaclahhdnaa
open Go.RowKit
set_option linter.unusedSimpArgs false
set_option linter.unusedVariables false

set_option maxRecDepth 100000 in
set_option maxHeartbeats 4000000 in
theorem typed_err (k r c : Int) (v : Val) (A : Option Addr) (cap n j : Nat) (x : Value) (w : World) (ks : List Int) (z : Int × Int) (hz : z.2 ≠ 0) (hn : n ≤ 1000) (hj : j < n) (hks : j ≤ ks.length)
    (HOK : Hid (∀ i, i < j → ∃ g o e A' cap', A = some ⟨g, o, none⟩ ∧ Hid (∀ w', Ext w w' → At w' g (o + i * 8) (Ex.cells e (.slice A' e.kids.length cap'))) ∧ Hid (∀ w', Ext w w' → Calls Try.prog 95 #[.agg (e.cells (.slice A' e.kids.length cap')).toArray, x] w' fun ev w'' => ev = .returned (.int .i64 (ks.getD i 0)) ∧ Ext w' w'')))
    (HNO : Hid (∃ g o e A' cap', A = some ⟨g, o, none⟩ ∧ Hid (∀ w', Ext w w' → At w' g (o + j * 8) (Ex.cells e (.slice A' e.kids.length cap'))) ∧ Hid (∀ w', Ext w w' → Calls Try.prog 95 #[.agg (e.cells (.slice A' e.kids.length cap')).toArray, x] w' fun ev w'' => ev = .panicked (chainE z.2) ∧ Ext w' w''))) :
    Calls Try.prog 95 #[.agg (exCells k r c v (.slice A n cap)).toArray, x] w fun ev w' => ev = .panicked (chainE z.2) ∧ Ext w w' := by
  unfold exCells
  go_enter Try.func95, Try.ntmps95
  go_wp2_with fail
  go_loopw [5, 11] (fun y1 y wr => ∃ i : Nat, y = .int .i64 (i : Int) ∧ i ≤ j ∧ OwnI wr (w.heap.size + 1) y1 (ks.take i) ∧ Ext (w.alloc (.cells #[.int .i64 k, .int .i64 r, .int .i64 c, .int .i64 v.kind, .int .i64 v.int, .float .f64 v.flt, .string v.text, .slice A n cap] 27)) wr) (fun _ y _ => n - (intOf y).toNat)
  case atStart => exact ⟨0, rfl, by omega, OwnI.nil _ _, Ext.refl _⟩
  case round =>
    rename_i hrel
    obtain ⟨i, rfl, hi, hrow, hE⟩ := hrel
    have HROW := Lib.hid hrow; have HEB := Lib.hid hE; have HE := Lib.hid (((Ext.refl w).alloc _).trans hE)
    clear hrow hE
    have hlt : i < n := by omega
    have hlt' : (i : Int) < (n : Int) := by omega
    have hI : (i : Int) ≤ 1000 := by omega
    by_cases hij : i < j
    · have HTAKE := Lib.hid (row_take (ks := ks) (i := i) (by omega))
      have HLEN : Hid ((ks.take i).length ≤ 1000000000) := Lib.hid (by rw [List.length_take]; omega)
      have hsz : w.heap.size + 1 ≤ (wr.alloc (.cells #[] 0)).heap.size := by have := HEB.out.size; simp at this; simp; omega
      obtain ⟨g, o, e, A', cap', rfl, HAT, HCALL⟩ := HOK.out i hij
      unfold Ex.cells exCells at HAT HCALL
      generalize ks.getD i 0 = q at *
      go_wp2_with (first
        | (refine wpList_wish rfl fun K hK => wp_idxS (i := i) Try.underlying25 size_ex (.tmp 9) _ rfl rfl rfl hlt (hK _ _ ?_))
        | (refine wpList_wish rfl fun K hK => wp_loadA (vs := [.int .i64 e.kind, .int .i64 e.rel, .int .i64 e.col, .int .i64 e.const.kind, .int .i64 e.const.int, .float .f64 e.const.flt, .string e.const.text, .slice A' e.kids.length cap']) agg_ex (.tmp 13) rfl rfl (HAT.out _ (HE.out)) (hK _ _ ?_))
        | (refine wpList_wish rfl fun K hK => wp_loadA (vs := [.int .i64 e.kind, .int .i64 e.rel, .int .i64 e.col, .int .i64 e.const.kind, .int .i64 e.const.int, .float .f64 e.const.flt, .string e.const.text, .slice A' e.kids.length cap']) agg_ex (.tmp 7) rfl rfl (At.new rfl _ _ _ rfl) (hK _ _ ?_))
        | (go_at_call 95; refine (HCALL.out _ (HE.out.trans ((Ext.refl _).alloc _))).mono ?_; rintro ev w2 ⟨rfl, hb⟩; have HB := Lib.hid hb; clear hb)
        | (at_builtin; refine wpList_addI rfl (.tmp 15) (.tmp 19) rfl rfl (HROW.out.ext (((Ext.refl _).alloc _).trans HB.out)) q rfl rfl HLEN.out (by have := HB.out.size; simp at this hsz; omega) ?_; intro v5 w5 ho5 hw5; have HO5 := Lib.hid ho5; have HW5 := Lib.hid hw5; clear ho5 hw5))
      refine ⟨⟨i + 1, by simp, by omega, by rw [← HTAKE.out]; exact HO5.out, (HEB.out.trans (((Ext.refl _).alloc _).trans HB.out)).trans_wr HW5.out (by simp)⟩, by simp [intOf] <;> omega⟩
    · obtain rfl : i = j := by omega
      obtain ⟨g, o, e, A', cap', rfl, HAT, HCALL⟩ := HNO.out
      unfold Ex.cells exCells at HAT HCALL
      unfold chainE at *
      go_wp2_with (first
        | (refine wpList_wish rfl fun K hK => wp_idxS (i := i) Try.underlying25 size_ex (.tmp 9) _ rfl rfl rfl hlt (hK _ _ ?_))
        | (refine wpList_wish rfl fun K hK => wp_loadA (vs := [.int .i64 e.kind, .int .i64 e.rel, .int .i64 e.col, .int .i64 e.const.kind, .int .i64 e.const.int, .float .f64 e.const.flt, .string e.const.text, .slice A' e.kids.length cap']) agg_ex (.tmp 13) rfl rfl (HAT.out _ (HE.out)) (hK _ _ ?_))
        | (refine wpList_wish rfl fun K hK => wp_loadA (vs := [.int .i64 e.kind, .int .i64 e.rel, .int .i64 e.col, .int .i64 e.const.kind, .int .i64 e.const.int, .float .f64 e.const.flt, .string e.const.text, .slice A' e.kids.length cap']) agg_ex (.tmp 7) rfl rfl (At.new rfl _ _ _ rfl) (hK _ _ ?_))
        | (go_at_call 95; refine (HCALL.out _ (HE.out.trans ((Ext.refl _).alloc _))).mono ?_; rintro ev w2 ⟨rfl, hb⟩; have HB := Lib.hid hb; clear hb))
      exact ⟨rfl, rfl, HE.out.trans (((Ext.refl _).alloc _).trans HB.out)⟩

theorem firstErr_at : ∀ {ts : List (Int × Int)}, firstErr ts ≠ 0 → ∃ j, ∃ hj : j < ts.length, (∀ i (hi : i < j), (ts[i]'(by omega)).2 = 0) ∧ firstErr ts = ts[j].2
  | [], h => absurd rfl h
  | q :: l, h => by
    simp only [firstErr] at h ⊢
    by_cases hq : q.2 = 0
    · rw [if_pos hq] at h ⊢
      obtain ⟨j, hj, h1, h2⟩ := firstErr_at h
      refine ⟨j + 1, by simpa using hj, fun i hi => ?_, by simpa using h2⟩
      cases i with
      | zero => simpa using hq
      | succ i => simpa using h1 i (by omega)
    · rw [if_neg hq]
      exact ⟨0, by simp, fun i hi => absurd hi (by omega), rfl⟩

/-- expr.typed: a well-formed expression's type over tables, or what it gives up with. -/
theorem typed_of (tabs : List (List Int)) (x : Value) : ∀ (e : Ex) (s : Value) (w : World), Ex.In w e s → TabsIn w x tabs → e.wf = true →
    Calls Try.prog 95 #[.agg (e.cells s).toArray, x] w fun ev w' => TyR (e.typed tabs) ev ∧ Ext w w' := by
  intro e
  induction e using Ex.ind with
  | h k r c v l ih =>
    intro s w hin hx hwf
    simp only [Ex.wf, Bool.and_eq_true, decide_eq_true_eq] at hwf
    obtain ⟨⟨hk, hf⟩, hl⟩ := hwf
    rw [Exs.wf_iff] at hl
    obtain ⟨hlm, A, cap, rfl, hkr⟩ := hin.kids
    show Calls Try.prog 95 #[.agg (exCells k r c v (.slice A l.length cap)).toArray, x] w fun ev w' => TyR ((Ex.mk k r c v l).typed tabs) ev ∧ Ext w w'
    simp only [Ex.typed, Exs.typed_map]
    have kid : ∀ i (hi : i < l.length), ∃ g o e A' cap', A = some ⟨g, o, none⟩ ∧ Hid (∀ w', Ext w w' → At w' g (o + i * 8) (Ex.cells e (.slice A' e.kids.length cap'))) ∧ Hid (∀ w', Ext w w' → Calls Try.prog 95 #[.agg (e.cells (.slice A' e.kids.length cap')).toArray, x] w' fun ev w'' => TyR (l[i].typed tabs) ev ∧ Ext w' w'') := by
      intro i hi
      obtain ⟨g, o, s, h1, _, h3, h4, h5⟩ := hin.kids.get i hi
      obtain ⟨_, A', cap', rfl, _⟩ := h4.mk_inv.2.2.2.2
      exact ⟨g, o, l[i], A', cap', h1, Lib.hid (fun w' he => h3.ext he h5), Lib.hid (fun w' he => ih _ (List.getElem_mem hi) _ w' (Ex.In.ext he _ _ h4) (hx.ext he) (hl _ (List.getElem_mem hi)))⟩
    have hlen : l.length ≤ 2 := by
      unfold kidsOf at hk
      repeat (first | omega | split at hk)
    by_cases hz : firstErr (l.map (Ex.typed tabs)) = 0
    · rw [if_pos hz]
      rw [firstErr_zero] at hz
      have HK : Hid (TyKids w x A l.length (fun i ev => ev = .returned (.int .i64 (((l.map (Ex.typed tabs)).map Prod.fst).getD i 0)))) := Lib.hid (by
        intro i hi
        obtain ⟨g, o, e, A', cap', h1, h2, h3⟩ := kid i hi
        refine ⟨g, o, e, A', cap', h1, h2, Lib.hid fun w' he => (h3.out w' he).mono fun ev w'' ⟨h4, h5⟩ => ⟨?_, h5⟩⟩
        have h6 := TyR.ok (hz _ (List.mem_map.2 ⟨l[i], List.getElem_mem hi, rfl⟩)) h4
        dsimp only
        rw [h6, List.getD_eq_getElem?_getD, List.getElem?_eq_getElem (by simpa using hi)]
        simp)
      have hks : ((l.map (Ex.typed tabs)).map Prod.fst).length = l.length := by simp
      have hkk : (k = 1 ∨ k = 2) ∧ l.length = 0 ∨ (k = 6 ∨ k = 12 ∨ k = 13) ∧ l.length = 1 ∨ (k = 3 ∨ k = 4 ∨ k = 5 ∨ k = 7 ∨ k = 8 ∨ k = 9 ∨ k = 10 ∨ k = 11) ∧ l.length = 2 := by
        unfold kidsOf at hk
        split at hk
        · rename_i h; exact .inl ⟨h, by omega⟩
        · split at hk
          · rename_i h; exact .inr (.inl ⟨h, by omega⟩)
          · split at hk
            · rename_i h; exact .inr (.inr ⟨h, by omega⟩)
            · omega
      generalize ((l.map (Ex.typed tabs)).map Prod.fst) = ks at *
      clear ih hin hl hk hkr kid hz
      generalize l.length = n at *
      rcases hkk with ⟨hk, rfl⟩ | ⟨hk, rfl⟩ | ⟨hk, rfl⟩
      · rcases hk with rfl | rfl
        · have hR : 0 ≤ r ∧ r ≤ 31 ∧ 0 ≤ c ∧ c ≤ 31 := by
            unfold fieldsOk at hf
            split at hf
            · cases hf
            · rename_i h
              simp only [inRel, Bool.and_eq_false_iff, decide_eq_false_iff_not] at h
              omega
          obtain ⟨R, rfl⟩ : ∃ R : Nat, r = (R : Int) := ⟨r.toNat, by omega⟩
          obtain ⟨C, rfl⟩ : ∃ C : Nat, c = (C : Int) := ⟨c.toNat, by omega⟩
          exact typed_1 tabs R C v A cap x w ks hks hx HK
        · exact typed_2 tabs r c v A cap x w ks hks HK
      · rcases hk with rfl | rfl | rfl
        · exact typed_6 tabs r c v A cap x w ks hks HK
        · exact typed_12 tabs r c v A cap x w ks hks HK
        · exact typed_13 tabs r c v A cap x w ks hks HK
      · rcases hk with rfl | rfl | rfl | rfl | rfl | rfl | rfl | rfl
        · exact typed_3 tabs r c v A cap x w ks hks HK
        · exact typed_4 tabs r c v A cap x w ks hks HK
        · exact typed_5 tabs r c v A cap x w ks hks HK
        · exact typed_7 tabs r c v A cap x w ks hks HK
        · exact typed_8 tabs r c v A cap x w ks hks HK
        · exact typed_9 tabs r c v A cap x w ks hks HK
        · exact typed_10 tabs r c v A cap x w ks hks HK
        · exact typed_11 tabs r c v A cap x w ks hks HK
    · rw [if_neg hz]
      obtain ⟨j, hj, h1, h2⟩ := firstErr_at hz
      have hj' : j < l.length := by simpa using hj
      rw [h2] at hz ⊢
      refine (typed_err k r c v A cap l.length j x w ((l.map (Ex.typed tabs)).map Prod.fst) (l.map (Ex.typed tabs))[j] hz (by omega) hj' (by simp; omega) (Lib.hid ?_) (Lib.hid ?_)).mono fun ev w' ⟨h3, h4⟩ => ⟨?_, h4⟩
      · intro i hi
        obtain ⟨g, o, e, A', cap', q1, q2, q3⟩ := kid i (by omega)
        refine ⟨g, o, e, A', cap', q1, q2, Lib.hid fun w' he => (q3.out w' he).mono fun ev w'' ⟨h4, h5⟩ => ⟨?_, h5⟩⟩
        have h6 := TyR.ok (by simpa using h1 i hi) h4
        rw [h6, List.getD_eq_getElem?_getD, List.getElem?_eq_getElem (by simp; omega)]
        simp
      · obtain ⟨g, o, e, A', cap', q1, q2, q3⟩ := kid j hj'
        refine ⟨g, o, e, A', cap', q1, q2, Lib.hid fun w' he => (q3.out w' he).mono fun ev w'' ⟨h4, h5⟩ => ⟨?_, h5⟩⟩
        have h6 := TyR.bad (by simpa using hz) h4
        simpa using h6
      · rw [h3]; unfold TyR; rw [if_neg hz]
end Go.Proofs.Ytlcdjaclahhdnaa
namespace Go.Proofs.Ytlcdjaclahhdnaa
open Go.RowKit
set_option linter.unusedSimpArgs false
set_option linter.unusedVariables false

/-- What expr.Type tells: a kind, an error's number. -/
def Ex.type (e : Ex) (tabs : List (List Int)) : Int × Int :=
  if 0 ≤ e.count 1 400 then (if e.refs tabs = true then (if (e.typed tabs).2 = 0 then ((e.typed tabs).1, 0) else (0, (e.typed tabs).2)) else (0, 40)) else (0, 2)
/-- The closure in expr.Type: a captured expression, tables, and the place of the result. -/
structure TyC (w : World) (g h p : Nat) (e : Ex) (s rv : Value) (tabs : List (List Int)) : Prop where
  ebox : BoxAt w g (e.cells s)
  ein : Ex.In w e s
  rbox : BoxAt w h [rv]
  rin : TabsIn w rv tabs
  res : BoxAt w p [.int .i64 0]
theorem TyC.ext {w w' : World} {g h p : Nat} {e : Ex} {s rv : Value} {tabs : List (List Int)} (he : Ext w w') (k : TyC w g h p e s rv tabs) : TyC w' g h p e s rv tabs :=
  ⟨k.ebox.ext he, Ex.In.ext he _ _ k.ein, k.rbox.ext he, k.rin.ext he, k.res.ext he⟩

section
variable (g h p : Nat) (e : Ex) (A : Option Addr) (cap : Nat) (RA : Option Addr) (rc : Nat) (tabs : List (List Int)) (w : World)
set_option maxRecDepth 100000 in
set_option maxHeartbeats 1000000 in
theorem tyclosure_ok (hc : TyC w g h p e (.slice A e.kids.length cap) (.slice RA tabs.length rc) tabs) (hwf : e.wf = true) (hr : e.refs tabs = true) (hz : (e.typed tabs).2 = 0) :
    Calls Try.prog 93 #[.pointer (some ⟨g, 0, none⟩), .pointer (some ⟨h, 0, none⟩), .pointer (some ⟨p, 0, none⟩)] w
      fun ev w' => ev = .returned (.tuple #[]) ∧ But p w w' ∧ BoxAt w' p [.int .i64 (e.typed tabs).1] := by
  have HREF := Lib.hid (fun w h1 h2 => refs_of tabs (.slice RA tabs.length rc) e (.slice A e.kids.length cap) w h1 h2 hwf)
  have HTY := Lib.hid (fun w h1 h2 => typed_of tabs (.slice RA tabs.length rc) e (.slice A e.kids.length cap) w h1 h2 hwf)
  have HC := Lib.hid hc; have HR := Lib.hid hr
  unfold Ex.cells exCells at HREF HTY
  generalize e.typed tabs = q at *
  have HZ := Lib.hid hz
  clear hc hz hr
  go_enter Try.func93, Try.ntmps93
  go_wp2_with (first
    | (refine wpList_wish rfl fun K hK => wp_loadA (vs := [.int .i64 e.kind, .int .i64 e.rel, .int .i64 e.col, .int .i64 e.const.kind, .int .i64 e.const.int, .float .f64 e.const.flt, .string e.const.text, .slice A e.kids.length cap]) agg_ex (.tmp 0) rfl rfl HC.out.ebox.cells (hK _ _ ?_))
    | (refine wpList_wish rfl fun K hK => wp_cell Try.underlying65 rfl (.tmp 1) rfl rfl (HC.out.rbox.cells.get 0 _ rfl) (hK _ _ ?_))
    | (go_at_call 94; refine (HREF.out _ HC.out.ein HC.out.rin).mono ?_; rintro ev w1 ⟨he, hb⟩; obtain rfl := RefE.ok HR.out he; have HC1 := Lib.hid (HC.out.ext hb); have HE := Lib.hid hb; clear hb he HC; have HC := HC1; clear HC1)
    | (go_at_call 95; refine (HTY.out _ HC.out.ein HC.out.rin).mono ?_; rintro ev w2 ⟨he, hb⟩; obtain rfl := TyR.ok HZ.out he; have HC1 := Lib.hid (HC.out.ext hb); have HE2 := Lib.hid (HE.out.trans hb); clear hb he HC; have HC := HC1; clear HC1; obtain ⟨hres, _⟩ := HC.out.res.cells; have hfr := HC.out.res.free 0))
  go_end0
  exact ⟨rfl, But.set_ (p := ⟨p, 0, none⟩) (.inr rfl) _ (But.of_ext HE2.out), HC.out.res.set1⟩
set_option maxRecDepth 100000 in
set_option maxHeartbeats 1000000 in
theorem tyclosure_ref (hc : TyC w g h p e (.slice A e.kids.length cap) (.slice RA tabs.length rc) tabs) (hwf : e.wf = true) (hr : e.refs tabs = false) :
    Calls Try.prog 93 #[.pointer (some ⟨g, 0, none⟩), .pointer (some ⟨h, 0, none⟩), .pointer (some ⟨p, 0, none⟩)] w
      fun ev w' => ev = .panicked (chainE 40) ∧ Ext w w' := by
  have HREF := Lib.hid (fun w h1 h2 => refs_of tabs (.slice RA tabs.length rc) e (.slice A e.kids.length cap) w h1 h2 hwf)
  have HC := Lib.hid hc; have HR := Lib.hid hr
  unfold Ex.cells exCells at HREF
  clear hc hr
  unfold chainE
  go_enter Try.func93, Try.ntmps93
  go_wp2_with (first
    | (refine wpList_wish rfl fun K hK => wp_loadA (vs := [.int .i64 e.kind, .int .i64 e.rel, .int .i64 e.col, .int .i64 e.const.kind, .int .i64 e.const.int, .float .f64 e.const.flt, .string e.const.text, .slice A e.kids.length cap]) agg_ex (.tmp 0) rfl rfl HC.out.ebox.cells (hK _ _ ?_))
    | (refine wpList_wish rfl fun K hK => wp_cell Try.underlying65 rfl (.tmp 1) rfl rfl (HC.out.rbox.cells.get 0 _ rfl) (hK _ _ ?_))
    | (go_at_call 94; refine (HREF.out _ HC.out.ein HC.out.rin).mono ?_; rintro ev w1 ⟨he, hb⟩; obtain rfl := RefE.bad HR.out he; have HE := Lib.hid hb; clear hb he))
  exact ⟨rfl, rfl, HE.out⟩
set_option maxRecDepth 100000 in
set_option maxHeartbeats 1000000 in
theorem tyclosure_bad (hc : TyC w g h p e (.slice A e.kids.length cap) (.slice RA tabs.length rc) tabs) (hwf : e.wf = true) (hr : e.refs tabs = true) (hz : (e.typed tabs).2 ≠ 0) :
    Calls Try.prog 93 #[.pointer (some ⟨g, 0, none⟩), .pointer (some ⟨h, 0, none⟩), .pointer (some ⟨p, 0, none⟩)] w
      fun ev w' => ev = .panicked (chainE (e.typed tabs).2) ∧ Ext w w' := by
  have HREF := Lib.hid (fun w h1 h2 => refs_of tabs (.slice RA tabs.length rc) e (.slice A e.kids.length cap) w h1 h2 hwf)
  have HTY := Lib.hid (fun w h1 h2 => typed_of tabs (.slice RA tabs.length rc) e (.slice A e.kids.length cap) w h1 h2 hwf)
  have HC := Lib.hid hc; have HR := Lib.hid hr
  unfold Ex.cells exCells at HREF HTY
  generalize e.typed tabs = q at *
  have HZ := Lib.hid hz
  clear hc hz hr
  unfold chainE
  go_enter Try.func93, Try.ntmps93
  go_wp2_with (first
    | (refine wpList_wish rfl fun K hK => wp_loadA (vs := [.int .i64 e.kind, .int .i64 e.rel, .int .i64 e.col, .int .i64 e.const.kind, .int .i64 e.const.int, .float .f64 e.const.flt, .string e.const.text, .slice A e.kids.length cap]) agg_ex (.tmp 0) rfl rfl HC.out.ebox.cells (hK _ _ ?_))
    | (refine wpList_wish rfl fun K hK => wp_cell Try.underlying65 rfl (.tmp 1) rfl rfl (HC.out.rbox.cells.get 0 _ rfl) (hK _ _ ?_))
    | (go_at_call 94; refine (HREF.out _ HC.out.ein HC.out.rin).mono ?_; rintro ev w1 ⟨he, hb⟩; obtain rfl := RefE.ok HR.out he; have HC1 := Lib.hid (HC.out.ext hb); have HE := Lib.hid hb; clear hb he HC; have HC := HC1; clear HC1)
    | (go_at_call 95; refine (HTY.out _ HC.out.ein HC.out.rin).mono ?_; rintro ev w2 ⟨he, hb⟩; obtain rfl := TyR.bad HZ.out he; have HE2 := Lib.hid (HE.out.trans hb); clear hb he))
  exact ⟨rfl, rfl, HE2.out⟩
end

set_option maxRecDepth 100000 in
set_option maxHeartbeats 2000000 in
theorem Type_of (e : Ex) (s : Value) (w : World) (rv : Value) (tabs : List (List Int)) (hin : Ex.In w e s) (htabs : TabsIn w rv tabs) :
    Calls Try.prog 36 #[.agg (e.cells s).toArray, rv] w fun ev w' => ev = .returned (.tuple #[.int .i64 (e.type tabs).1, .int .i64 (e.type tabs).2]) ∧ Ext w w' := by
  obtain ⟨_, A, cap, rfl, _⟩ := hin.mk_inv.2.2.2.2
  obtain ⟨RA, rc, rfl⟩ : ∃ RA rc, rv = .slice RA tabs.length rc := by obtain ⟨_, A, c, h, _⟩ := htabs; exact ⟨A, c, h⟩
  have hmf : ∀ (fn : Fn) (first cap : Array Value) (w : World), (Instr.makeFunc fn first cap).run Try.prog w = .ok (.func fn first cap) w := fun _ _ _ _ => rfl
  have HF := Lib.hid (fun w h => formed_of e (.slice A e.kids.length cap) w h)
  have hb0 : BoxAt ((w.alloc (.cells (e.cells (.slice A e.kids.length cap)).toArray 27)).alloc (.cells #[.slice RA tabs.length rc] 65)) w.heap.size (e.cells (.slice A e.kids.length cap)) := (BoxAt.new rfl rfl).ext ((Ext.refl _).alloc _)
  have hb1 : BoxAt ((w.alloc (.cells (e.cells (.slice A e.kids.length cap)).toArray 27)).alloc (.cells #[.slice RA tabs.length rc] 65)) (w.heap.size + 1) [.slice RA tabs.length rc] := BoxAt.new (by simp) rfl
  have hE0 : Ext w ((w.alloc (.cells (e.cells (.slice A e.kids.length cap)).toArray 27)).alloc (.cells #[.slice RA tabs.length rc] 65)) := ((Ext.refl _).alloc _).alloc _
  have HB0 := Lib.hid hb0; have HB1 := Lib.hid hb1; have HE := Lib.hid hE0; have HIN := Lib.hid hin; have HTB := Lib.hid htabs
  clear hb0 hb1 hE0 hin htabs
  unfold Ex.cells exCells at HE HF HB0 HB1
  show Calls Try.prog 36 #[.agg #[.int .i64 e.kind, .int .i64 e.rel, .int .i64 e.col, .int .i64 e.const.kind, .int .i64 e.const.int, .float .f64 e.const.flt, .string e.const.text, .slice A e.kids.length cap], .slice RA tabs.length rc] w _
  unfold Ex.type
  by_cases hf : 0 ≤ e.count 1 400
  · have hwf := Ex.count_wf e 1 400 hf
    rw [if_pos hf]
    have hd : decide (0 ≤ e.count 1 400) = true := decide_eq_true hf
    rw [hd] at HF
    have HN : Hid (∀ u, Ext w u → BoxAt u w.heap.size (e.cells (.slice A e.kids.length cap)) → BoxAt u (w.heap.size + 1) [.slice RA tabs.length rc] → TyC (u.alloc (.cells #[.int .i64 0] 3)) w.heap.size (w.heap.size + 1) u.heap.size e (.slice A e.kids.length cap) (.slice RA tabs.length rc) tabs) :=
      Lib.hid fun u he h1 h2 => ⟨h1.ext ((Ext.refl _).alloc _), Ex.In.ext (he.alloc _) _ _ HIN.out, h2.ext ((Ext.refl _).alloc _), HTB.out.ext (he.alloc _), BoxAt.new rfl rfl⟩
    unfold Ex.cells exCells at HN
    by_cases hr : e.refs tabs = true
    · rw [if_pos hr]
      by_cases hz : (e.typed tabs).2 = 0
      · rw [if_pos hz]
        have HOK := Lib.hid (fun g h p w hc => tyclosure_ok g h p e A cap RA rc tabs w hc hwf hr hz)
        generalize e.typed tabs = q at *
        clear hf hd hwf hz hr
        go_enter Try.func36, Try.ntmps36
        go_wp2_with (first
          | (refine wpList_wish rfl fun K hK => wp_loadA (vs := [.int .i64 e.kind, .int .i64 e.rel, .int .i64 e.col, .int .i64 e.const.kind, .int .i64 e.const.int, .float .f64 e.const.flt, .string e.const.text, .slice A e.kids.length cap]) agg_ex (.tmp 2) rfl rfl HB0.out.cells (hK _ _ ?_))
          | (go_at_call 15; refine (HF.out _ (Ex.In.ext HE.out _ _ HIN.out)).mono ?_; rintro ev w1 ⟨rfl, hb⟩; have HTC := Lib.hid (HN.out _ (HE.out.trans hb) (HB0.out.ext hb) (HB1.out.ext hb)); have HE := Lib.hid (HE.out.trans hb); clear hb)
          | (go_at_call 58; refine (guarded_ok_type _ _ (fun u => BoxAt u w1.heap.size [.int .i64 q.1]) w1.heap.size HTC.out.res.lt (Lib.hid fun w' he => HOK.out _ _ _ w' (HTC.out.ext he))).mono ?_; rintro ev w2 ⟨rfl, ⟨u, hu1, hu2⟩, hb⟩; have HR := Lib.hid (But.box hu2 (Nat.ne_of_lt HTC.out.res.lt) hu1); have HE2 := Lib.hid (But.to_ext (HE.out.alloc _) hb HE.out.size); clear hu1 hu2 hb; obtain ⟨hres, _⟩ := HR.out.cells))
        go_ret2
        exact ⟨rfl, HE2.out⟩
      · rw [if_neg hz]
        have HBAD := Lib.hid (fun g h p w hc => tyclosure_bad g h p e A cap RA rc tabs w hc hwf hr hz)
        generalize e.typed tabs = q at *
        have hzz : (q.2 != 0) = true := by simpa using hz
        clear hf hd hwf hz hr
        go_enter Try.func36, Try.ntmps36
        go_wp2_with (first
          | (refine wpList_wish rfl fun K hK => wp_loadA (vs := [.int .i64 e.kind, .int .i64 e.rel, .int .i64 e.col, .int .i64 e.const.kind, .int .i64 e.const.int, .float .f64 e.const.flt, .string e.const.text, .slice A e.kids.length cap]) agg_ex (.tmp 2) rfl rfl HB0.out.cells (hK _ _ ?_))
          | (go_at_call 15; refine (HF.out _ (Ex.In.ext HE.out _ _ HIN.out)).mono ?_; rintro ev w1 ⟨rfl, hb⟩; have HTC := Lib.hid (HN.out _ (HE.out.trans hb) (HB0.out.ext hb) (HB1.out.ext hb)); have HE := Lib.hid (HE.out.trans hb); clear hb)
          | (go_at_call 58; refine (guarded_bad_type _ _ q.2 w1.heap.size HTC.out.res.lt (Lib.hid fun w' he => (HBAD.out _ _ _ w' (HTC.out.ext he)).mono fun ev u ⟨h1, h2⟩ => ⟨h1, But.of_ext h2⟩)).mono ?_; rintro ev w2 ⟨rfl, hb⟩; have HE2 := Lib.hid (But.to_ext (HE.out.alloc _) hb HE.out.size); clear hb))
        go_ret2
        exact ⟨rfl, HE2.out⟩
    · have hr' : e.refs tabs = false := by simpa using hr
      rw [if_neg hr]
      have HBAD := Lib.hid (fun g h p w hc => tyclosure_ref g h p e A cap RA rc tabs w hc hwf hr')
      clear hf hd hwf hr hr'
      go_enter Try.func36, Try.ntmps36
      go_wp2_with (first
        | (refine wpList_wish rfl fun K hK => wp_loadA (vs := [.int .i64 e.kind, .int .i64 e.rel, .int .i64 e.col, .int .i64 e.const.kind, .int .i64 e.const.int, .float .f64 e.const.flt, .string e.const.text, .slice A e.kids.length cap]) agg_ex (.tmp 2) rfl rfl HB0.out.cells (hK _ _ ?_))
        | (go_at_call 15; refine (HF.out _ (Ex.In.ext HE.out _ _ HIN.out)).mono ?_; rintro ev w1 ⟨rfl, hb⟩; have HTC := Lib.hid (HN.out _ (HE.out.trans hb) (HB0.out.ext hb) (HB1.out.ext hb)); have HE := Lib.hid (HE.out.trans hb); clear hb)
        | (go_at_call 58; refine (guarded_bad_type _ _ 40 w1.heap.size HTC.out.res.lt (Lib.hid fun w' he => (HBAD.out _ _ _ w' (HTC.out.ext he)).mono fun ev u ⟨h1, h2⟩ => ⟨h1, But.of_ext h2⟩)).mono ?_; rintro ev w2 ⟨rfl, hb⟩; have HE2 := Lib.hid (But.to_ext (HE.out.alloc _) hb HE.out.size); clear hb))
      go_ret2
      exact ⟨rfl, HE2.out⟩
  · rw [if_neg hf]
    have hd : decide (0 ≤ e.count 1 400) = false := decide_eq_false hf
    rw [hd] at HF
    clear hf hd
    go_enter Try.func36, Try.ntmps36
    go_wp2_with (first
      | (refine wpList_wish rfl fun K hK => wp_loadA (vs := [.int .i64 e.kind, .int .i64 e.rel, .int .i64 e.col, .int .i64 e.const.kind, .int .i64 e.const.int, .float .f64 e.const.flt, .string e.const.text, .slice A e.kids.length cap]) agg_ex (.tmp 2) rfl rfl HB0.out.cells (hK _ _ ?_))
      | (go_at_call 15; refine (HF.out _ (Ex.In.ext HE.out _ _ HIN.out)).mono ?_; rintro ev w1 ⟨rfl, hb⟩; have HE := Lib.hid (HE.out.trans hb); clear hb))
    go_ret2
    exact ⟨rfl, HE.out⟩
end Go.Proofs.Ytlcdjaclahhdnaa
