/- The call of tabularyref22.eval. Printed by wip/tools/gen_reval.py. The call of tabularyref22.eval, two parts. Printed by wip/tools/gen_reval.py. The call of tabularyref22.eval: a constant, a column. Printed by wip/tools/gen_reval0.py. -/
import Derived.Test.YtlcdjaclahhdnaaR4e
import Derived.Test.YtlcdjaclahhdnaaR4f
import Derived.Test.YtlcdjaclahhdnaaVals
import Derived.Test.YtlcdjaclahhdnaaEx3
import Derived.Deep.DeepCutAuto
import Derived.Deep.CutBlock
import Derived.Test.YtlcdjaclahhdnaaQ
import Derived.Test.YtlcdjaclahhdnaaHd
import Derived.Test.YtlcdjaclahhdnaaTkB
namespace Go.Proofs.Ytlcdjaclahhdnaa
open Go.RowKit
set_option linter.unusedSimpArgs false
set_option linter.unusedVariables false
attribute [local irreducible] wpQuiet

theorem nameV {P : Program} {c : Code} {Q : Exit → Act → World → Prop} {a : Act} {w : World} (F : World → Prop) (hF : F w) (h : ∀ u, F u → c.wp P Q a u) : c.wp P Q a w := h w hF

set_option maxRecDepth 100000 in
set_option maxHeartbeats 20000000 in
theorem reval_one (rows : List (List Val)) (k r c : Int) (v : Val) (g o cap : Nat) (a : Ex) (A1 : Option Addr) (cap1 : Nat) (rv : Value) (ra : Val × Int) (w : World) (hk : k = 6 ∨ k = 12 ∨ k = 13) (hg : g < w.heap.size) (hata : At w g (o + 0 * 8) (a.cells (.slice A1 a.kids.length cap1)))
    (HA : Hid (∀ u, Ext w u → Calls Try.prog 88 #[.agg (a.cells (.slice A1 a.kids.length cap1)).toArray, rv] u (CalcR u ra))) (hra : ra.1.Ok) :
    Calls Try.prog 88 #[.agg #[.int .i64 k, .int .i64 r, .int .i64 c, .int .i64 v.kind, .int .i64 v.int, .float .f64 v.flt, .string v.text, (.slice (some ⟨g, o, none⟩) 1 cap)], rv] w (CalcR w (evalHead rows k r c v [ra])) := by
  have HATA := Lib.hid (fun u (hu : Ext w u) => hata.ext hu hg)
  have HRA := Lib.hid hra
  clear hata hra
  unfold Ex.cells exCells at *
  obtain ⟨q, hq⟩ : ∃ q, q = evalHead rows k r c v [ra] := ⟨_, rfl⟩
  rw [← hq]
  have HQE := Lib.hid hq; clear hq
  go_enter Try.func88, Try.ntmps88
  go_upto_region 5 with fail
  refine nameV (fun u => Ext w u ∧ BoxAt u w.heap.size [.int .i64 k, .int .i64 r, .int .i64 c, .int .i64 v.kind, .int .i64 v.int, .float .f64 v.flt, .string v.text, (.slice (some ⟨g, o, none⟩) 1 cap)] ∧ BoxAt u (w.heap.size + 1) [.int .i64 0, .int .i64 0, .float .f64 0, .string ⟨#[]⟩] ∧ BoxAt u (w.heap.size + 2) [.int .i64 0, .int .i64 0, .float .f64 0, .string ⟨#[]⟩] ∧ BoxAt u (w.heap.size + 3) [.int .i64 0, .int .i64 0, .float .f64 0, .string ⟨#[]⟩] ∧ BoxAt u (w.heap.size + 4) [.int .i64 0, .int .i64 0, .float .f64 0, .string ⟨#[]⟩]) ⟨?_, ((((BoxAt.new rfl rfl).ext ((Ext.refl _).alloc _)).ext ((Ext.refl _).alloc _)).ext ((Ext.refl _).alloc _)).ext ((Ext.refl _).alloc _), (((BoxAt.new (by simp) rfl).ext ((Ext.refl _).alloc _)).ext ((Ext.refl _).alloc _)).ext ((Ext.refl _).alloc _), ((BoxAt.new (by simp) rfl).ext ((Ext.refl _).alloc _)).ext ((Ext.refl _).alloc _), (BoxAt.new (by simp) rfl).ext ((Ext.refl _).alloc _), BoxAt.new (by simp) rfl⟩ ?_
  · repeat (first | (with_reducible exact Ext.refl _) | (with_reducible refine Ext.set_ ?_ _ ?_; focus (first | (simp; done) | (simp; omega) | (simp at *; omega))) | (with_reducible refine Ext.alloc ?_ _) | (with_reducible refine Ext.drew ?_) | (with_reducible refine Ext.drewN ?_ _) | (with_reducible refine Ext.trans ?_ (by assumption)))
  rintro W ⟨hE, hb0, hb1, hb2, hb3, hb4⟩
  have b07 := hb0.cells.get 7 _ rfl
  simp only [Nat.zero_add] at b07
  have HE := Lib.hid hE; have HB0 := Lib.hid hb0; have HB1 := Lib.hid hb1; have HB2 := Lib.hid hb2; have HB3 := Lib.hid hb3; have HB4 := Lib.hid hb4
  clear hE hb0 hb1 hb2 hb3 hb4
  by_cases hz : ra.2 = 0
  · have z1 : (ra.2 != 0) = false := by simp [hz]
    have HH : Hid (q = if k = 6 then Val.calc k ra.1 Val.null else if k = 12 then Val.both k ra.1 Val.null else (Val.truth (ra.1.kind == 0), 0)) := Lib.hid (by
      rw [HQE.out]; unfold evalHead
      simp only [List.getD_cons_zero, List.getD_cons_succ, List.getD_nil, hz, ne_eq, not_true_eq_false, if_false]
      rcases hk with rfl | rfl | rfl <;> simp)
    go_upto_region 13 with (first
      | (refine wpList_wish rfl fun K hK => ?_; first | (refine wp_idxS (i := 0) Try.underlying25 size_ex (.tmp 19) _ rfl rfl rfl (by decide) (hK _ _ ?_)) | (refine wp_loadA (vs := [.int .i64 a.kind, .int .i64 a.rel, .int .i64 a.col, .int .i64 a.const.kind, .int .i64 a.const.int, .float .f64 a.const.flt, .string a.const.text, .slice A1 a.kids.length cap1]) agg_ex (.tmp 20) rfl rfl (HATA.out _ HE.out) (hK _ _ ?_)))
      | (go_at_call 88; refine (HA.out _ HE.out).mono ?_; rintro ev w2 ⟨va, rfl, hla, hoa, he⟩; have HC := Lib.hid he; have HLA := Lib.hid hla; have HOA := Lib.hid hoa; clear he hla hoa)
      | (refine wpList_storeA (val_one va) (HB3.out.ext HC.out) sizeVal rfl rfl (.tmp 7) _ rfl rfl rfl ?_; intro w3 hq1 hq2; have HP := Lib.hid hq1; have HQ := Lib.hid hq2; have HE3 := Lib.hid (But.to_ext (HE.out.trans HC.out) hq2 (by omega)); have b7w := (But.box hq2 (by omega) (HB0.out.ext HC.out)).cells.get 7 _ rfl; simp only [Nat.zero_add] at b7w; clear hq1 hq2))
    refine nameV (fun u => Ext w u ∧ BoxAt u w.heap.size [.int .i64 k, .int .i64 r, .int .i64 c, .int .i64 v.kind, .int .i64 v.int, .float .f64 v.flt, .string v.text, (.slice (some ⟨g, o, none⟩) 1 cap)] ∧ BoxAt u (w.heap.size + 1) [.int .i64 0, .int .i64 0, .float .f64 0, .string ⟨#[]⟩] ∧ BoxAt u (w.heap.size + 2) [.int .i64 0, .int .i64 0, .float .f64 0, .string ⟨#[]⟩] ∧ BoxAt u (w.heap.size + 3) [.int .i64 va.kind, .int .i64 va.int, .float .f64 va.flt, .string va.text] ∧ BoxAt u (w.heap.size + 4) [.int .i64 0, .int .i64 0, .float .f64 0, .string ⟨#[]⟩]) ⟨HE3.out, But.box HQ.out (by omega) (HB0.out.ext HC.out), But.box HQ.out (by omega) (HB1.out.ext HC.out), But.box HQ.out (by omega) (HB2.out.ext HC.out), HP.out, But.box HQ.out (by omega) (HB4.out.ext HC.out)⟩ ?_
    clear HE HB0 HB1 HB2 HB3 HB4 HC HP HQ HE3 b07 b7w hz z1
    clear W w2 w3
    rintro W ⟨hE, hb0, hb1, hb2, hb3, hb4⟩
    have b00 := hb0.cells.get 0 _ rfl
    simp only [Nat.zero_add] at b00
    have b30 := hb3.cells.get 0 _ rfl
    simp only [Nat.zero_add] at b30
    have HE := Lib.hid hE; have HB0 := Lib.hid hb0; have HB1 := Lib.hid hb1; have HB2 := Lib.hid hb2; have HB3 := Lib.hid hb3; have HB4 := Lib.hid hb4
    clear hE hb0 hb1 hb2 hb3 hb4
    rcases hk with rfl | rfl | rfl
    · have HT : q = Val.calc 6 va Val.null := (by rw [HH.out]; simp only [Int.reduceEq, if_false, if_true]; exact (like_calc HLA.out (Val.like.refl _)).symm)
      have HCB := Lib.hid (fun u => rcalc_of 6 va Val.null u HOA.out Val.null_ok (by omega) (by omega))
      rw [← HT] at HCB
      clear HT HH HQE
      go_wp2_with (first
        | (refine wpList_wish rfl fun K hK => ?_; first | (refine wp_loadA (vs := [.int .i64 va.kind, .int .i64 va.int, .float .f64 va.flt, .string va.text]) agg_val (.tmp 7) rfl rfl HB3.out.cells (hK _ _ ?_)) | (refine wp_loadA (vs := [.int .i64 0, .int .i64 0, .float .f64 0, .string ⟨#[]⟩]) agg_val (.tmp 8) rfl rfl HB4.out.cells (hK _ _ ?_)))
        | (go_at_call 131; refine (HCB.out _).mono ?_; rintro ev w4 ⟨vq, rfl, hlq, hoq, hb⟩)
        | (refine wpList_storeA (val_one vq) (HB1.out.ext hb) sizeVal rfl rfl (.tmp 4) _ rfl rfl rfl ?_; intro w9 hq1 hq2))
      exact back_ct rfl vq.cells (.int .i64 q.2) rfl rfl agg_val rfl hq1.cells ⟨_, rfl, hlq, hoq, But.to_ext (HE.out.trans hb) hq2 (by omega)⟩
    · have HT : q = Val.both 12 va Val.null := (by rw [HH.out]; simp only [Int.reduceEq, if_false, if_true]; exact (like_both HLA.out (Val.like.refl _)).symm)
      have HCB := Lib.hid (fun u => rboth12_of va Val.null u HOA.out.flt Val.null_ok.flt)
      have HKB := Lib.hid (both_ok (op := 12) (a := va) (b := Val.null))
      rw [← HT] at HCB HKB
      clear HT HH HQE
      go_wp2_with (first
        | (refine wpList_wish rfl fun K hK => ?_; first | (refine wp_loadA (vs := [.int .i64 va.kind, .int .i64 va.int, .float .f64 va.flt, .string va.text]) agg_val (.tmp 7) rfl rfl HB3.out.cells (hK _ _ ?_)) | (refine wp_loadA (vs := [.int .i64 0, .int .i64 0, .float .f64 0, .string ⟨#[]⟩]) agg_val (.tmp 8) rfl rfl HB4.out.cells (hK _ _ ?_)))
        | (go_at_call 133; refine (HCB.out _).mono ?_; rintro ev w4 ⟨rfl, hb⟩)
        | (refine wpList_storeA (val_one q.1) (HB1.out.ext hb) sizeVal rfl rfl (.tmp 4) _ rfl rfl rfl ?_; intro w9 hq1 hq2))
      exact back_ct rfl q.1.cells (.int .i64 q.2) rfl rfl agg_val rfl hq1.cells ⟨_, rfl, Val.like.refl _, HKB.out, But.to_ext (HE.out.trans hb) hq2 (by omega)⟩
    · have HT : q = (Val.truth (va.kind == 0), 0) := (by rw [HH.out]; simp [HLA.out.1])
      subst HT
      clear HH HQE
      go_wp2_with (first
        | (go_at_call 134; refine (rbool_of _ _).mono ?_; rintro ev w4 ⟨rfl, hb⟩)
        | (refine wpList_storeA (val_one (Val.truth (va.kind == 0))) (HB1.out.ext hb) sizeVal rfl rfl (.tmp 4) _ rfl rfl rfl ?_; intro w9 hq1 hq2))
      exact back_ct rfl (Val.truth (va.kind == 0)).cells (.int .i64 0) rfl rfl agg_val rfl hq1.cells ⟨_, rfl, Val.like.refl _, truth_ok _, But.to_ext (HE.out.trans hb) hq2 (by omega)⟩
  · have z1 : (ra.2 != 0) = true := by simpa using hz
    have HH : q = (Val.null, ra.2) := (by
      rw [HQE.out]; unfold evalHead
      simp only [List.getD_cons_zero, hz, ne_eq, not_false_eq_true, if_true])
    subst HH
    clear HQE
    go_wp2_with (first
  | (refine wpList_wish rfl fun K hK => ?_; first | (refine wp_idxS (i := 0) Try.underlying25 size_ex (.tmp 19) _ rfl rfl rfl (by decide) (hK _ _ ?_)) | (refine wp_loadA (vs := [.int .i64 a.kind, .int .i64 a.rel, .int .i64 a.col, .int .i64 a.const.kind, .int .i64 a.const.int, .float .f64 a.const.flt, .string a.const.text, .slice A1 a.kids.length cap1]) agg_ex (.tmp 20) rfl rfl (HATA.out _ HE.out) (hK _ _ ?_)))
  | (go_at_call 88; refine (HA.out _ HE.out).mono ?_; rintro ev w2 ⟨va, rfl, hla, hoa, he⟩; have HC := Lib.hid he; have HLA := Lib.hid hla; have HOA := Lib.hid hoa; clear he hla hoa)
  | (refine wpList_storeA (val_one va) (HB3.out.ext HC.out) sizeVal rfl rfl (.tmp 7) _ rfl rfl rfl ?_; intro w3 hq1 hq2; have HP := Lib.hid hq1; have HQ := Lib.hid hq2; have HE3 := Lib.hid (But.to_ext (HE.out.trans HC.out) hq2 (by omega)); have b7w := (But.box hq2 (by omega) (HB0.out.ext HC.out)).cells.get 7 _ rfl; simp only [Nat.zero_add] at b7w; clear hq1 hq2)
  | (refine wpList_wish rfl fun K hK => wp_loadA (vs := [.int .i64 0, .int .i64 0, .float .f64 0, .string ⟨#[]⟩]) agg_val (.tmp 6) rfl rfl (But.box HQ.out (by omega) (HB2.out.ext HC.out)).cells (hK _ _ ?_))
  | (refine wpList_storeA (val_one Val.null) (But.box HQ.out (by omega) (HB1.out.ext HC.out)) sizeVal rfl rfl (.tmp 4) _ rfl rfl rfl ?_; intro w9 hq1 hq2))
    exact back_ct rfl Val.null.cells (.int .i64 ra.2) rfl rfl agg_val rfl hq1.cells ⟨_, rfl, Val.like.refl _, Val.null_ok, But.to_ext HE3.out hq2 (by omega)⟩
end Go.Proofs.Ytlcdjaclahhdnaa
namespace Go.Proofs.Ytlcdjaclahhdnaa
open Go.RowKit
set_option linter.unusedSimpArgs false
set_option linter.unusedVariables false
attribute [local irreducible] wpQuiet

set_option maxRecDepth 100000 in
set_option maxHeartbeats 80000000 in
theorem reval_two (rows : List (List Val)) (k r c : Int) (v : Val) (g o cap : Nat) (a b : Ex) (A1 A2 : Option Addr) (cap1 cap2 : Nat) (rv : Value) (ra rb : Val × Int) (w : World) (hk : k = 3 ∨ k = 4 ∨ k = 5 ∨ k = 7 ∨ k = 8 ∨ k = 9 ∨ k = 10 ∨ k = 11) (hg : g < w.heap.size) (hata : At w g (o + 0 * 8) (a.cells (.slice A1 a.kids.length cap1))) (hatb : At w g (o + 1 * 8) (b.cells (.slice A2 b.kids.length cap2)))
    (HA : Hid (∀ u, Ext w u → Calls Try.prog 88 #[.agg (a.cells (.slice A1 a.kids.length cap1)).toArray, rv] u (CalcR u ra)))
    (HB : Hid (∀ u, Ext w u → Calls Try.prog 88 #[.agg (b.cells (.slice A2 b.kids.length cap2)).toArray, rv] u (CalcR u rb))) :
    Calls Try.prog 88 #[.agg #[.int .i64 k, .int .i64 r, .int .i64 c, .int .i64 v.kind, .int .i64 v.int, .float .f64 v.flt, .string v.text, (.slice (some ⟨g, o, none⟩) 2 cap)], rv] w (CalcR w (evalHead rows k r c v [ra, rb])) := by
  have HATA := Lib.hid (fun u (hu : Ext w u) => hata.ext hu hg)
  have HATB := Lib.hid (fun u (hu : Ext w u) => hatb.ext hu hg)
  clear hata hatb
  unfold Ex.cells exCells at *
  obtain ⟨q, hq⟩ : ∃ q, q = evalHead rows k r c v [ra, rb] := ⟨_, rfl⟩
  rw [← hq]
  have HQE := Lib.hid hq; clear hq
  go_enter Try.func88, Try.ntmps88
  go_upto_region 5 with fail
  refine nameV (fun u => Ext w u ∧ BoxAt u w.heap.size [.int .i64 k, .int .i64 r, .int .i64 c, .int .i64 v.kind, .int .i64 v.int, .float .f64 v.flt, .string v.text, (.slice (some ⟨g, o, none⟩) 2 cap)] ∧ BoxAt u (w.heap.size + 1) [.int .i64 0, .int .i64 0, .float .f64 0, .string ⟨#[]⟩] ∧ BoxAt u (w.heap.size + 2) [.int .i64 0, .int .i64 0, .float .f64 0, .string ⟨#[]⟩] ∧ BoxAt u (w.heap.size + 3) [.int .i64 0, .int .i64 0, .float .f64 0, .string ⟨#[]⟩] ∧ BoxAt u (w.heap.size + 4) [.int .i64 0, .int .i64 0, .float .f64 0, .string ⟨#[]⟩]) ⟨?_, ((((BoxAt.new rfl rfl).ext ((Ext.refl _).alloc _)).ext ((Ext.refl _).alloc _)).ext ((Ext.refl _).alloc _)).ext ((Ext.refl _).alloc _), (((BoxAt.new (by simp) rfl).ext ((Ext.refl _).alloc _)).ext ((Ext.refl _).alloc _)).ext ((Ext.refl _).alloc _), ((BoxAt.new (by simp) rfl).ext ((Ext.refl _).alloc _)).ext ((Ext.refl _).alloc _), (BoxAt.new (by simp) rfl).ext ((Ext.refl _).alloc _), BoxAt.new (by simp) rfl⟩ ?_
  · repeat (first | (with_reducible exact Ext.refl _) | (with_reducible refine Ext.set_ ?_ _ ?_; focus (first | (simp; done) | (simp; omega) | (simp at *; omega))) | (with_reducible refine Ext.alloc ?_ _) | (with_reducible refine Ext.drew ?_) | (with_reducible refine Ext.drewN ?_ _) | (with_reducible refine Ext.trans ?_ (by assumption)))
  rintro W ⟨hE, hb0, hb1, hb2, hb3, hb4⟩
  have b07 := hb0.cells.get 7 _ rfl
  simp only [Nat.zero_add] at b07
  have HE := Lib.hid hE; have HB0 := Lib.hid hb0; have HB1 := Lib.hid hb1; have HB2 := Lib.hid hb2; have HB3 := Lib.hid hb3; have HB4 := Lib.hid hb4
  clear hE hb0 hb1 hb2 hb3 hb4
  by_cases hz : ra.2 = 0
  · have z1 : (ra.2 != 0) = false := by simp [hz]
    go_upto_region 9 with (first
  | (refine wpList_wish rfl fun K hK => ?_; first | (refine wp_idxS (i := 0) Try.underlying25 size_ex (.tmp 19) _ rfl rfl rfl (by decide) (hK _ _ ?_)) | (refine wp_loadA (vs := [.int .i64 a.kind, .int .i64 a.rel, .int .i64 a.col, .int .i64 a.const.kind, .int .i64 a.const.int, .float .f64 a.const.flt, .string a.const.text, .slice A1 a.kids.length cap1]) agg_ex (.tmp 20) rfl rfl (HATA.out _ HE.out) (hK _ _ ?_)))
  | (go_at_call 88; refine (HA.out _ HE.out).mono ?_; rintro ev w2 ⟨va, rfl, hla, hoa, he⟩; have HC := Lib.hid he; have HLA := Lib.hid hla; have HOA := Lib.hid hoa; clear he hla hoa)
  | (refine wpList_storeA (val_one va) (HB3.out.ext HC.out) sizeVal rfl rfl (.tmp 7) _ rfl rfl rfl ?_; intro w3 hq1 hq2; have HP := Lib.hid hq1; have HQ := Lib.hid hq2; have HE3 := Lib.hid (But.to_ext (HE.out.trans HC.out) hq2 (by omega)); have b7w := (But.box hq2 (by omega) (HB0.out.ext HC.out)).cells.get 7 _ rfl; simp only [Nat.zero_add] at b7w; clear hq1 hq2))
    refine nameV (fun u => Ext w u ∧ BoxAt u w.heap.size [.int .i64 k, .int .i64 r, .int .i64 c, .int .i64 v.kind, .int .i64 v.int, .float .f64 v.flt, .string v.text, (.slice (some ⟨g, o, none⟩) 2 cap)] ∧ BoxAt u (w.heap.size + 1) [.int .i64 0, .int .i64 0, .float .f64 0, .string ⟨#[]⟩] ∧ BoxAt u (w.heap.size + 2) [.int .i64 0, .int .i64 0, .float .f64 0, .string ⟨#[]⟩] ∧ BoxAt u (w.heap.size + 3) [.int .i64 va.kind, .int .i64 va.int, .float .f64 va.flt, .string va.text] ∧ BoxAt u (w.heap.size + 4) [.int .i64 0, .int .i64 0, .float .f64 0, .string ⟨#[]⟩]) ⟨HE3.out, But.box HQ.out (by omega) (HB0.out.ext HC.out), But.box HQ.out (by omega) (HB1.out.ext HC.out), But.box HQ.out (by omega) (HB2.out.ext HC.out), HP.out, But.box HQ.out (by omega) (HB4.out.ext HC.out)⟩ ?_
    clear HE HB0 HB1 HB2 HB3 HB4 HC HP HQ HE3 b07 b7w z1
    clear W w2 w3
    rintro W ⟨hE, hb0, hb1, hb2, hb3, hb4⟩
    have b07 := hb0.cells.get 7 _ rfl
    simp only [Nat.zero_add] at b07
    have HE := Lib.hid hE; have HB0 := Lib.hid hb0; have HB1 := Lib.hid hb1; have HB2 := Lib.hid hb2; have HB3 := Lib.hid hb3; have HB4 := Lib.hid hb4
    clear hE hb0 hb1 hb2 hb3 hb4
    by_cases hy : rb.2 = 0
    · have z2 : (rb.2 != 0) = false := by simp [hy]
      have HH : Hid (q = if 3 ≤ k ∧ k ≤ 6 then Val.calc k ra.1 rb.1 else if 7 ≤ k ∧ k ≤ 9 then Val.test k ra.1 rb.1 else Val.both k ra.1 rb.1) := Lib.hid (by
        rw [HQE.out]; unfold evalHead
        simp only [List.getD_cons_zero, List.getD_cons_succ, List.getD_nil, hz, hy, ne_eq, not_true_eq_false, if_false]
        rcases hk with rfl | rfl | rfl | rfl | rfl | rfl | rfl | rfl <;> simp)
      go_upto_region 13 with (first
      | (refine wpList_wish rfl fun K hK => ?_; first | (refine wp_idxS (i := 1) Try.underlying25 size_ex (.tmp 36) _ rfl rfl rfl (by decide) (hK _ _ ?_)) | (refine wp_loadA (vs := [.int .i64 b.kind, .int .i64 b.rel, .int .i64 b.col, .int .i64 b.const.kind, .int .i64 b.const.int, .float .f64 b.const.flt, .string b.const.text, .slice A2 b.kids.length cap2]) agg_ex (.tmp 37) rfl rfl (HATB.out _ HE.out) (hK _ _ ?_)))
      | (go_at_call 88; refine (HB.out _ HE.out).mono ?_; rintro ev w2 ⟨vb, rfl, hla, hoa, he⟩; have HC := Lib.hid he; have HLB := Lib.hid hla; have HOB := Lib.hid hoa; clear he hla hoa)
      | (refine wpList_storeA (val_one vb) (HB4.out.ext HC.out) sizeVal rfl rfl (.tmp 8) _ rfl rfl rfl ?_; intro w3 hq1 hq2; have HP := Lib.hid hq1; have HQ := Lib.hid hq2; have HE3 := Lib.hid (But.to_ext (HE.out.trans HC.out) hq2 (by omega)); clear hq1 hq2)
)
      refine nameV (fun u => Ext w u ∧ BoxAt u w.heap.size [.int .i64 k, .int .i64 r, .int .i64 c, .int .i64 v.kind, .int .i64 v.int, .float .f64 v.flt, .string v.text, (.slice (some ⟨g, o, none⟩) 2 cap)] ∧ BoxAt u (w.heap.size + 1) [.int .i64 0, .int .i64 0, .float .f64 0, .string ⟨#[]⟩] ∧ BoxAt u (w.heap.size + 2) [.int .i64 0, .int .i64 0, .float .f64 0, .string ⟨#[]⟩] ∧ BoxAt u (w.heap.size + 3) [.int .i64 va.kind, .int .i64 va.int, .float .f64 va.flt, .string va.text] ∧ BoxAt u (w.heap.size + 4) [.int .i64 vb.kind, .int .i64 vb.int, .float .f64 vb.flt, .string vb.text]) ⟨HE3.out, But.box HQ.out (by omega) (HB0.out.ext HC.out), But.box HQ.out (by omega) (HB1.out.ext HC.out), But.box HQ.out (by omega) (HB2.out.ext HC.out), But.box HQ.out (by omega) (HB3.out.ext HC.out), HP.out⟩ ?_
      clear HE HB0 HB1 HB2 HB3 HB4 HC HP HQ HE3 b07 hz hy z2
      clear W w2 w3
      rintro W ⟨hE, hb0, hb1, hb2, hb3, hb4⟩
      have b00 := hb0.cells.get 0 _ rfl
      simp only [Nat.zero_add] at b00
      have HE := Lib.hid hE; have HB0 := Lib.hid hb0; have HB1 := Lib.hid hb1; have HB2 := Lib.hid hb2; have HB3 := Lib.hid hb3; have HB4 := Lib.hid hb4
      clear hE hb0 hb1 hb2 hb3 hb4
      rcases hk with rfl | rfl | rfl | rfl | rfl | rfl | rfl | rfl
      · have HT : q = Val.calc 3 va vb := (by rw [HH.out]; simp only [Int.reduceEq, Int.reduceLE, and_self, and_true, true_and, and_false, false_and, if_false, if_true]; exact (like_calc HLA.out HLB.out).symm)
        have HCB := Lib.hid (fun u => rcalc_of 3 va vb u HOA.out HOB.out (by omega) (by omega))
        rw [← HT] at HCB
        clear HT HH HQE
        go_wp2_with (first
          | (refine wpList_wish rfl fun K hK => ?_; first | (refine wp_loadA (vs := [.int .i64 va.kind, .int .i64 va.int, .float .f64 va.flt, .string va.text]) agg_val (.tmp 7) rfl rfl HB3.out.cells (hK _ _ ?_)) | (refine wp_loadA (vs := [.int .i64 vb.kind, .int .i64 vb.int, .float .f64 vb.flt, .string vb.text]) agg_val (.tmp 8) rfl rfl HB4.out.cells (hK _ _ ?_)))
          | (go_at_call 131; refine (HCB.out _).mono ?_; rintro ev w4 ⟨vq, rfl, hlq, hoq, hb⟩)
          | (refine wpList_storeA (val_one vq) (HB1.out.ext hb) sizeVal rfl rfl (.tmp 4) _ rfl rfl rfl ?_; intro w9 hq1 hq2))
        exact back_ct rfl vq.cells (.int .i64 q.2) rfl rfl agg_val rfl hq1.cells ⟨_, rfl, hlq, hoq, But.to_ext (HE.out.trans hb) hq2 (by omega)⟩
      · have HT : q = Val.calc 4 va vb := (by rw [HH.out]; simp only [Int.reduceEq, Int.reduceLE, and_self, and_true, true_and, and_false, false_and, if_false, if_true]; exact (like_calc HLA.out HLB.out).symm)
        have HCB := Lib.hid (fun u => rcalc_of 4 va vb u HOA.out HOB.out (by omega) (by omega))
        rw [← HT] at HCB
        clear HT HH HQE
        go_wp2_with (first
          | (refine wpList_wish rfl fun K hK => ?_; first | (refine wp_loadA (vs := [.int .i64 va.kind, .int .i64 va.int, .float .f64 va.flt, .string va.text]) agg_val (.tmp 7) rfl rfl HB3.out.cells (hK _ _ ?_)) | (refine wp_loadA (vs := [.int .i64 vb.kind, .int .i64 vb.int, .float .f64 vb.flt, .string vb.text]) agg_val (.tmp 8) rfl rfl HB4.out.cells (hK _ _ ?_)))
          | (go_at_call 131; refine (HCB.out _).mono ?_; rintro ev w4 ⟨vq, rfl, hlq, hoq, hb⟩)
          | (refine wpList_storeA (val_one vq) (HB1.out.ext hb) sizeVal rfl rfl (.tmp 4) _ rfl rfl rfl ?_; intro w9 hq1 hq2))
        exact back_ct rfl vq.cells (.int .i64 q.2) rfl rfl agg_val rfl hq1.cells ⟨_, rfl, hlq, hoq, But.to_ext (HE.out.trans hb) hq2 (by omega)⟩
      · have HT : q = Val.calc 5 va vb := (by rw [HH.out]; simp only [Int.reduceEq, Int.reduceLE, and_self, and_true, true_and, and_false, false_and, if_false, if_true]; exact (like_calc HLA.out HLB.out).symm)
        have HCB := Lib.hid (fun u => rcalc_of 5 va vb u HOA.out HOB.out (by omega) (by omega))
        rw [← HT] at HCB
        clear HT HH HQE
        go_wp2_with (first
          | (refine wpList_wish rfl fun K hK => ?_; first | (refine wp_loadA (vs := [.int .i64 va.kind, .int .i64 va.int, .float .f64 va.flt, .string va.text]) agg_val (.tmp 7) rfl rfl HB3.out.cells (hK _ _ ?_)) | (refine wp_loadA (vs := [.int .i64 vb.kind, .int .i64 vb.int, .float .f64 vb.flt, .string vb.text]) agg_val (.tmp 8) rfl rfl HB4.out.cells (hK _ _ ?_)))
          | (go_at_call 131; refine (HCB.out _).mono ?_; rintro ev w4 ⟨vq, rfl, hlq, hoq, hb⟩)
          | (refine wpList_storeA (val_one vq) (HB1.out.ext hb) sizeVal rfl rfl (.tmp 4) _ rfl rfl rfl ?_; intro w9 hq1 hq2))
        exact back_ct rfl vq.cells (.int .i64 q.2) rfl rfl agg_val rfl hq1.cells ⟨_, rfl, hlq, hoq, But.to_ext (HE.out.trans hb) hq2 (by omega)⟩
      · have HT : q = Val.test 7 va vb := (by rw [HH.out]; simp only [Int.reduceEq, Int.reduceLE, and_self, and_true, true_and, and_false, false_and, if_false, if_true]; exact (like_test HLA.out HLB.out).symm)
        have HCB := Lib.hid (fun u => rtest_of 7 va vb u HOA.out.flt HOB.out.flt (by omega) (by omega))
        have HKB := Lib.hid (test_ok (op := 7) (a := va) (b := vb))
        rw [← HT] at HCB HKB
        clear HT HH HQE
        go_wp2_with (first
          | (refine wpList_wish rfl fun K hK => ?_; first | (refine wp_loadA (vs := [.int .i64 va.kind, .int .i64 va.int, .float .f64 va.flt, .string va.text]) agg_val (.tmp 7) rfl rfl HB3.out.cells (hK _ _ ?_)) | (refine wp_loadA (vs := [.int .i64 vb.kind, .int .i64 vb.int, .float .f64 vb.flt, .string vb.text]) agg_val (.tmp 8) rfl rfl HB4.out.cells (hK _ _ ?_)))
          | (go_at_call 132; refine (HCB.out _).mono ?_; rintro ev w4 ⟨rfl, hb⟩)
          | (refine wpList_storeA (val_one q.1) (HB1.out.ext hb) sizeVal rfl rfl (.tmp 4) _ rfl rfl rfl ?_; intro w9 hq1 hq2))
        exact back_ct rfl q.1.cells (.int .i64 q.2) rfl rfl agg_val rfl hq1.cells ⟨_, rfl, Val.like.refl _, HKB.out, But.to_ext (HE.out.trans hb) hq2 (by omega)⟩
      · have HT : q = Val.test 8 va vb := (by rw [HH.out]; simp only [Int.reduceEq, Int.reduceLE, and_self, and_true, true_and, and_false, false_and, if_false, if_true]; exact (like_test HLA.out HLB.out).symm)
        have HCB := Lib.hid (fun u => rtest_of 8 va vb u HOA.out.flt HOB.out.flt (by omega) (by omega))
        have HKB := Lib.hid (test_ok (op := 8) (a := va) (b := vb))
        rw [← HT] at HCB HKB
        clear HT HH HQE
        go_wp2_with (first
          | (refine wpList_wish rfl fun K hK => ?_; first | (refine wp_loadA (vs := [.int .i64 va.kind, .int .i64 va.int, .float .f64 va.flt, .string va.text]) agg_val (.tmp 7) rfl rfl HB3.out.cells (hK _ _ ?_)) | (refine wp_loadA (vs := [.int .i64 vb.kind, .int .i64 vb.int, .float .f64 vb.flt, .string vb.text]) agg_val (.tmp 8) rfl rfl HB4.out.cells (hK _ _ ?_)))
          | (go_at_call 132; refine (HCB.out _).mono ?_; rintro ev w4 ⟨rfl, hb⟩)
          | (refine wpList_storeA (val_one q.1) (HB1.out.ext hb) sizeVal rfl rfl (.tmp 4) _ rfl rfl rfl ?_; intro w9 hq1 hq2))
        exact back_ct rfl q.1.cells (.int .i64 q.2) rfl rfl agg_val rfl hq1.cells ⟨_, rfl, Val.like.refl _, HKB.out, But.to_ext (HE.out.trans hb) hq2 (by omega)⟩
      · have HT : q = Val.test 9 va vb := (by rw [HH.out]; simp only [Int.reduceEq, Int.reduceLE, and_self, and_true, true_and, and_false, false_and, if_false, if_true]; exact (like_test HLA.out HLB.out).symm)
        have HCB := Lib.hid (fun u => rtest_of 9 va vb u HOA.out.flt HOB.out.flt (by omega) (by omega))
        have HKB := Lib.hid (test_ok (op := 9) (a := va) (b := vb))
        rw [← HT] at HCB HKB
        clear HT HH HQE
        go_wp2_with (first
          | (refine wpList_wish rfl fun K hK => ?_; first | (refine wp_loadA (vs := [.int .i64 va.kind, .int .i64 va.int, .float .f64 va.flt, .string va.text]) agg_val (.tmp 7) rfl rfl HB3.out.cells (hK _ _ ?_)) | (refine wp_loadA (vs := [.int .i64 vb.kind, .int .i64 vb.int, .float .f64 vb.flt, .string vb.text]) agg_val (.tmp 8) rfl rfl HB4.out.cells (hK _ _ ?_)))
          | (go_at_call 132; refine (HCB.out _).mono ?_; rintro ev w4 ⟨rfl, hb⟩)
          | (refine wpList_storeA (val_one q.1) (HB1.out.ext hb) sizeVal rfl rfl (.tmp 4) _ rfl rfl rfl ?_; intro w9 hq1 hq2))
        exact back_ct rfl q.1.cells (.int .i64 q.2) rfl rfl agg_val rfl hq1.cells ⟨_, rfl, Val.like.refl _, HKB.out, But.to_ext (HE.out.trans hb) hq2 (by omega)⟩
      · have HT : q = Val.both 10 va vb := (by rw [HH.out]; simp only [Int.reduceEq, Int.reduceLE, and_self, and_true, true_and, and_false, false_and, if_false, if_true]; exact (like_both HLA.out HLB.out).symm)
        have HCB := Lib.hid (fun u => rboth10_of va vb u HOA.out.flt HOB.out.flt)
        have HKB := Lib.hid (both_ok (op := 10) (a := va) (b := vb))
        rw [← HT] at HCB HKB
        clear HT HH HQE
        go_wp2_with (first
          | (refine wpList_wish rfl fun K hK => ?_; first | (refine wp_loadA (vs := [.int .i64 va.kind, .int .i64 va.int, .float .f64 va.flt, .string va.text]) agg_val (.tmp 7) rfl rfl HB3.out.cells (hK _ _ ?_)) | (refine wp_loadA (vs := [.int .i64 vb.kind, .int .i64 vb.int, .float .f64 vb.flt, .string vb.text]) agg_val (.tmp 8) rfl rfl HB4.out.cells (hK _ _ ?_)))
          | (go_at_call 133; refine (HCB.out _).mono ?_; rintro ev w4 ⟨rfl, hb⟩)
          | (refine wpList_storeA (val_one q.1) (HB1.out.ext hb) sizeVal rfl rfl (.tmp 4) _ rfl rfl rfl ?_; intro w9 hq1 hq2))
        exact back_ct rfl q.1.cells (.int .i64 q.2) rfl rfl agg_val rfl hq1.cells ⟨_, rfl, Val.like.refl _, HKB.out, But.to_ext (HE.out.trans hb) hq2 (by omega)⟩
      · have HT : q = Val.both 11 va vb := (by rw [HH.out]; simp only [Int.reduceEq, Int.reduceLE, and_self, and_true, true_and, and_false, false_and, if_false, if_true]; exact (like_both HLA.out HLB.out).symm)
        have HCB := Lib.hid (fun u => rboth11_of va vb u HOA.out.flt HOB.out.flt)
        have HKB := Lib.hid (both_ok (op := 11) (a := va) (b := vb))
        rw [← HT] at HCB HKB
        clear HT HH HQE
        go_wp2_with (first
          | (refine wpList_wish rfl fun K hK => ?_; first | (refine wp_loadA (vs := [.int .i64 va.kind, .int .i64 va.int, .float .f64 va.flt, .string va.text]) agg_val (.tmp 7) rfl rfl HB3.out.cells (hK _ _ ?_)) | (refine wp_loadA (vs := [.int .i64 vb.kind, .int .i64 vb.int, .float .f64 vb.flt, .string vb.text]) agg_val (.tmp 8) rfl rfl HB4.out.cells (hK _ _ ?_)))
          | (go_at_call 133; refine (HCB.out _).mono ?_; rintro ev w4 ⟨rfl, hb⟩)
          | (refine wpList_storeA (val_one q.1) (HB1.out.ext hb) sizeVal rfl rfl (.tmp 4) _ rfl rfl rfl ?_; intro w9 hq1 hq2))
        exact back_ct rfl q.1.cells (.int .i64 q.2) rfl rfl agg_val rfl hq1.cells ⟨_, rfl, Val.like.refl _, HKB.out, But.to_ext (HE.out.trans hb) hq2 (by omega)⟩
    · have z2 : (rb.2 != 0) = true := by simpa using hy
      have HH : q = (Val.null, rb.2) := (by
        rw [HQE.out]; unfold evalHead
        simp only [List.getD_cons_zero, List.getD_cons_succ, hz, hy, ne_eq, not_true_eq_false, not_false_eq_true, if_true, if_false])
      subst HH
      clear HQE
      go_wp2_with (first
      | (refine wpList_wish rfl fun K hK => ?_; first | (refine wp_idxS (i := 1) Try.underlying25 size_ex (.tmp 36) _ rfl rfl rfl (by decide) (hK _ _ ?_)) | (refine wp_loadA (vs := [.int .i64 b.kind, .int .i64 b.rel, .int .i64 b.col, .int .i64 b.const.kind, .int .i64 b.const.int, .float .f64 b.const.flt, .string b.const.text, .slice A2 b.kids.length cap2]) agg_ex (.tmp 37) rfl rfl (HATB.out _ HE.out) (hK _ _ ?_)))
      | (go_at_call 88; refine (HB.out _ HE.out).mono ?_; rintro ev w2 ⟨vb, rfl, hla, hoa, he⟩; have HC := Lib.hid he; have HLB := Lib.hid hla; have HOB := Lib.hid hoa; clear he hla hoa)
      | (refine wpList_storeA (val_one vb) (HB4.out.ext HC.out) sizeVal rfl rfl (.tmp 8) _ rfl rfl rfl ?_; intro w3 hq1 hq2; have HP := Lib.hid hq1; have HQ := Lib.hid hq2; have HE3 := Lib.hid (But.to_ext (HE.out.trans HC.out) hq2 (by omega)); clear hq1 hq2)

        | (refine wpList_wish rfl fun K hK => wp_loadA (vs := [.int .i64 0, .int .i64 0, .float .f64 0, .string ⟨#[]⟩]) agg_val (.tmp 6) rfl rfl (But.box HQ.out (by omega) (HB2.out.ext HC.out)).cells (hK _ _ ?_))
        | (refine wpList_storeA (val_one Val.null) (But.box HQ.out (by omega) (HB1.out.ext HC.out)) sizeVal rfl rfl (.tmp 4) _ rfl rfl rfl ?_; intro w9 hq1 hq2))
      exact back_ct rfl Val.null.cells (.int .i64 rb.2) rfl rfl agg_val rfl hq1.cells ⟨_, rfl, Val.like.refl _, Val.null_ok, But.to_ext HE3.out hq2 (by omega)⟩
  · have z1 : (ra.2 != 0) = true := by simpa using hz
    have HH : q = (Val.null, ra.2) := (by
      rw [HQE.out]; unfold evalHead
      simp only [List.getD_cons_zero, hz, ne_eq, not_false_eq_true, if_true])
    subst HH
    clear HQE
    go_wp2_with (first
  | (refine wpList_wish rfl fun K hK => ?_; first | (refine wp_idxS (i := 0) Try.underlying25 size_ex (.tmp 19) _ rfl rfl rfl (by decide) (hK _ _ ?_)) | (refine wp_loadA (vs := [.int .i64 a.kind, .int .i64 a.rel, .int .i64 a.col, .int .i64 a.const.kind, .int .i64 a.const.int, .float .f64 a.const.flt, .string a.const.text, .slice A1 a.kids.length cap1]) agg_ex (.tmp 20) rfl rfl (HATA.out _ HE.out) (hK _ _ ?_)))
  | (go_at_call 88; refine (HA.out _ HE.out).mono ?_; rintro ev w2 ⟨va, rfl, hla, hoa, he⟩; have HC := Lib.hid he; have HLA := Lib.hid hla; have HOA := Lib.hid hoa; clear he hla hoa)
  | (refine wpList_storeA (val_one va) (HB3.out.ext HC.out) sizeVal rfl rfl (.tmp 7) _ rfl rfl rfl ?_; intro w3 hq1 hq2; have HP := Lib.hid hq1; have HQ := Lib.hid hq2; have HE3 := Lib.hid (But.to_ext (HE.out.trans HC.out) hq2 (by omega)); have b7w := (But.box hq2 (by omega) (HB0.out.ext HC.out)).cells.get 7 _ rfl; simp only [Nat.zero_add] at b7w; clear hq1 hq2)
      | (refine wpList_wish rfl fun K hK => wp_loadA (vs := [.int .i64 0, .int .i64 0, .float .f64 0, .string ⟨#[]⟩]) agg_val (.tmp 6) rfl rfl (But.box HQ.out (by omega) (HB2.out.ext HC.out)).cells (hK _ _ ?_))
      | (refine wpList_storeA (val_one Val.null) (But.box HQ.out (by omega) (HB1.out.ext HC.out)) sizeVal rfl rfl (.tmp 4) _ rfl rfl rfl ?_; intro w9 hq1 hq2))
    exact back_ct rfl Val.null.cells (.int .i64 ra.2) rfl rfl agg_val rfl hq1.cells ⟨_, rfl, Val.like.refl _, Val.null_ok, But.to_ext HE3.out hq2 (by omega)⟩
end Go.Proofs.Ytlcdjaclahhdnaa
namespace Go.Proofs.Ytlcdjaclahhdnaa
open Go.RowKit
set_option linter.unusedSimpArgs false
set_option linter.unusedVariables false
attribute [local irreducible] wpQuiet

set_option maxRecDepth 100000 in
set_option maxHeartbeats 8000000 in
theorem reval_const (r c : Int) (v : Val) (A : Option Addr) (cap : Nat) (rv : Value) (w : World) (hv : v.Ok) :
    Calls Try.prog 88 #[.agg #[.int .i64 2, .int .i64 r, .int .i64 c, .int .i64 v.kind, .int .i64 v.int, .float .f64 v.flt, .string v.text, (.slice A 0 cap)], rv] w (CalcR w (v, 0)) := by
  go_enter Try.func88, Try.ntmps88
  go_upto_region 5 with fail
  refine nameV (fun u => Ext w u ∧ BoxAt u w.heap.size [.int .i64 2, .int .i64 r, .int .i64 c, .int .i64 v.kind, .int .i64 v.int, .float .f64 v.flt, .string v.text, (.slice A 0 cap)] ∧ BoxAt u (w.heap.size + 1) [.int .i64 0, .int .i64 0, .float .f64 0, .string ⟨#[]⟩] ∧ BoxAt u (w.heap.size + 2) [.int .i64 0, .int .i64 0, .float .f64 0, .string ⟨#[]⟩] ∧ BoxAt u (w.heap.size + 3) [.int .i64 0, .int .i64 0, .float .f64 0, .string ⟨#[]⟩] ∧ BoxAt u (w.heap.size + 4) [.int .i64 0, .int .i64 0, .float .f64 0, .string ⟨#[]⟩]) ⟨?_, ((((BoxAt.new rfl rfl).ext ((Ext.refl _).alloc _)).ext ((Ext.refl _).alloc _)).ext ((Ext.refl _).alloc _)).ext ((Ext.refl _).alloc _), (((BoxAt.new (by simp) rfl).ext ((Ext.refl _).alloc _)).ext ((Ext.refl _).alloc _)).ext ((Ext.refl _).alloc _), ((BoxAt.new (by simp) rfl).ext ((Ext.refl _).alloc _)).ext ((Ext.refl _).alloc _), (BoxAt.new (by simp) rfl).ext ((Ext.refl _).alloc _), BoxAt.new (by simp) rfl⟩ ?_
  · repeat (first | (with_reducible exact Ext.refl _) | (with_reducible refine Ext.set_ ?_ _ ?_; focus (first | (simp; done) | (simp; omega) | (simp at *; omega))) | (with_reducible refine Ext.alloc ?_ _) | (with_reducible refine Ext.drew ?_) | (with_reducible refine Ext.drewN ?_ _) | (with_reducible refine Ext.trans ?_ (by assumption)))
  rintro W ⟨hE, hb0, hb1, hb2, hb3, hb4⟩
  have b07 := hb0.cells.get 7 _ rfl
  simp only [Nat.zero_add] at b07
  have HE := Lib.hid hE; have HB0 := Lib.hid hb0; have HB1 := Lib.hid hb1; have HB2 := Lib.hid hb2; have HB3 := Lib.hid hb3; have HB4 := Lib.hid hb4
  clear hE hb0 hb1 hb2 hb3 hb4
  have b00 := HB0.out.cells.get 0 _ rfl
  simp only [Nat.zero_add] at b00
  go_wp2_with (first
    | (refine wpList_wish rfl fun K hK => wp_loadA (vs := [.int .i64 v.kind, .int .i64 v.int, .float .f64 v.flt, .string v.text]) agg_val (.tmp 91) rfl rfl (HB0.out.cells.2.2.2 |> fun h => ⟨h.1, h.2.1, h.2.2.1, h.2.2.2.1, trivial⟩) (hK _ _ ?_))
    | (refine wpList_storeA (val_one v) HB1.out sizeVal rfl rfl (.tmp 4) _ rfl rfl rfl ?_; intro w9 hq1 hq2))
  exact back_ct rfl v.cells (.int .i64 0) rfl rfl agg_val rfl hq1.cells ⟨_, rfl, Val.like.refl _, hv, But.to_ext HE.out hq2 (by omega)⟩

set_option maxRecDepth 100000 in
set_option maxHeartbeats 8000000 in
theorem reval_col_r (R C : Nat) (v : Val) (A : Option Addr) (cap : Nat) (rv : Value) (rows : List (List Val)) (w : World) (hrows : RowsIn w rv rows) (h1 : ¬ R < rows.length) :
    Calls Try.prog 88 #[.agg #[.int .i64 1, .int .i64 (R : Int), .int .i64 (C : Int), .int .i64 v.kind, .int .i64 v.int, .float .f64 v.flt, .string v.text, .slice A 0 cap], rv] w (CalcR w (lookup rows (R : Int) (C : Int), 0)) := by
  obtain ⟨RA, rc, rfl, hrc⟩ := hrows.val
  have hq1 : decide ((R : Int) < (rows.length : Int)) = false := by simp; omega
  have hq1n : decide (R < rows.length) = false := by simp; omega
  have e1 : rows[R]? = none := List.getElem?_eq_none (by omega)
  have HL : Hid (lookup rows (R : Int) (C : Int) = Val.null) := Lib.hid (by unfold lookup; simp [e1])
  clear hrows hrc e1
  go_enter Try.func88, Try.ntmps88
  go_upto_region 5 with fail
  refine nameV (fun u => Ext w u ∧ BoxAt u w.heap.size [.int .i64 1, .int .i64 (R : Int), .int .i64 (C : Int), .int .i64 v.kind, .int .i64 v.int, .float .f64 v.flt, .string v.text, (.slice A 0 cap)] ∧ BoxAt u (w.heap.size + 1) [.int .i64 0, .int .i64 0, .float .f64 0, .string ⟨#[]⟩] ∧ BoxAt u (w.heap.size + 2) [.int .i64 0, .int .i64 0, .float .f64 0, .string ⟨#[]⟩] ∧ BoxAt u (w.heap.size + 3) [.int .i64 0, .int .i64 0, .float .f64 0, .string ⟨#[]⟩] ∧ BoxAt u (w.heap.size + 4) [.int .i64 0, .int .i64 0, .float .f64 0, .string ⟨#[]⟩]) ⟨?_, ((((BoxAt.new rfl rfl).ext ((Ext.refl _).alloc _)).ext ((Ext.refl _).alloc _)).ext ((Ext.refl _).alloc _)).ext ((Ext.refl _).alloc _), (((BoxAt.new (by simp) rfl).ext ((Ext.refl _).alloc _)).ext ((Ext.refl _).alloc _)).ext ((Ext.refl _).alloc _), ((BoxAt.new (by simp) rfl).ext ((Ext.refl _).alloc _)).ext ((Ext.refl _).alloc _), (BoxAt.new (by simp) rfl).ext ((Ext.refl _).alloc _), BoxAt.new (by simp) rfl⟩ ?_
  · repeat (first | (with_reducible exact Ext.refl _) | (with_reducible refine Ext.set_ ?_ _ ?_; focus (first | (simp; done) | (simp; omega) | (simp at *; omega))) | (with_reducible refine Ext.alloc ?_ _) | (with_reducible refine Ext.drew ?_) | (with_reducible refine Ext.drewN ?_ _) | (with_reducible refine Ext.trans ?_ (by assumption)))
  rintro W ⟨hE, hb0, hb1, hb2, hb3, hb4⟩
  have b07 := hb0.cells.get 7 _ rfl
  simp only [Nat.zero_add] at b07
  have HE := Lib.hid hE; have HB0 := Lib.hid hb0; have HB1 := Lib.hid hb1; have HB2 := Lib.hid hb2; have HB3 := Lib.hid hb3; have HB4 := Lib.hid hb4
  clear hE hb0 hb1 hb2 hb3 hb4
  have b00 := HB0.out.cells.get 0 _ rfl
  simp only [Nat.zero_add] at b00
  go_upto_region 15 with fail
  refine wp_region_ext (by kernel_rfl) (by kernel_rfl) ?_; (repeat (first | (refine wpQuiet_step (fun K hK => ?_); go_simp; refine hK _ ?_; clear hK K) | (simp only [hq1]) | (simp only [hq1n]) | (refine quiet_cell2 (.tmp 51) rfl rfl Try.underlying3 rfl rfl (fun w' hw => (HB0.out.ext hw).cells.get 1 _ rfl) ?_) | (refine wpQuiet_step (fun K hK => ?_); go_simp; first | (refine ⟨_, fun w hw => rfl, hK _ ?_⟩; clear hK K)))); refine wpQuiet_nil ?_
  intro w1 hE1
  have HX := Lib.hid (HB1.out.ext hE1)
  have HY := Lib.hid (HB2.out.ext hE1)
  have HEE := Lib.hid (HE.out.trans hE1)
  go_wp2_with (first
    | (refine wpList_wish rfl fun K hK => wp_loadA (vs := [.int .i64 0, .int .i64 0, .float .f64 0, .string ⟨#[]⟩]) agg_val (.tmp 6) rfl rfl HY.out.cells (hK _ _ ?_))
    | (refine wpList_storeA (val_one Val.null) HX.out sizeVal rfl rfl (.tmp 4) _ rfl rfl rfl ?_; intro w9 hq1 hq2))
  exact back_ct rfl Val.null.cells (.int .i64 0) rfl rfl agg_val rfl hq1.cells ⟨_, rfl, (by rw [HL.out]; exact Val.like.refl _), Val.null_ok, But.to_ext HEE.out hq2 (by omega)⟩

set_option maxRecDepth 100000 in
set_option maxHeartbeats 8000000 in
theorem reval_col_c (R C : Nat) (v : Val) (A : Option Addr) (cap : Nat) (rv : Value) (rows : List (List Val)) (w : World) (hrows : RowsIn w rv rows) (h1 : R < rows.length) (h2 : ¬ C < rows[R].length) :
    Calls Try.prog 88 #[.agg #[.int .i64 1, .int .i64 (R : Int), .int .i64 (C : Int), .int .i64 v.kind, .int .i64 v.int, .float .f64 v.flt, .string v.text, .slice A 0 cap], rv] w (CalcR w (lookup rows (R : Int) (C : Int), 0)) := by
  obtain ⟨RA, rc, rfl, hrc⟩ := hrows.val
  have HR := Lib.hid hrows; clear hrows hrc
  obtain ⟨g, o, B, m, cb, rfl, _, hm, hcell, hvals⟩ := HR.out.at_ R h1
  have hg : g < w.heap.size := cell_lt hcell
  have HV := Lib.hid hvals; have HC := Lib.hid hcell
  have e1 : rows[R]? = some rows[R] := List.getElem?_eq_getElem h1
  subst hm
  have hq1 : decide ((R : Int) < (rows.length : Int)) = true := by simp; omega
  have e2 : rows[R][C]? = none := List.getElem?_eq_none (by omega)
  have hq2 : decide ((C : Int) < (rows[R].length : Int)) = false := by simp; omega
  have hq2n : decide (C < rows[R].length) = false := by simp; omega
  have HL : Hid (lookup rows (R : Int) (C : Int) = Val.null) := Lib.hid (by unfold lookup; simp [e1, e2])
  clear e1 e2 hvals hcell
  generalize rows[R].length = rl at *
  go_enter Try.func88, Try.ntmps88
  go_upto_region 5 with fail
  refine nameV (fun u => Ext w u ∧ BoxAt u w.heap.size [.int .i64 1, .int .i64 (R : Int), .int .i64 (C : Int), .int .i64 v.kind, .int .i64 v.int, .float .f64 v.flt, .string v.text, (.slice A 0 cap)] ∧ BoxAt u (w.heap.size + 1) [.int .i64 0, .int .i64 0, .float .f64 0, .string ⟨#[]⟩] ∧ BoxAt u (w.heap.size + 2) [.int .i64 0, .int .i64 0, .float .f64 0, .string ⟨#[]⟩] ∧ BoxAt u (w.heap.size + 3) [.int .i64 0, .int .i64 0, .float .f64 0, .string ⟨#[]⟩] ∧ BoxAt u (w.heap.size + 4) [.int .i64 0, .int .i64 0, .float .f64 0, .string ⟨#[]⟩]) ⟨?_, ((((BoxAt.new rfl rfl).ext ((Ext.refl _).alloc _)).ext ((Ext.refl _).alloc _)).ext ((Ext.refl _).alloc _)).ext ((Ext.refl _).alloc _), (((BoxAt.new (by simp) rfl).ext ((Ext.refl _).alloc _)).ext ((Ext.refl _).alloc _)).ext ((Ext.refl _).alloc _), ((BoxAt.new (by simp) rfl).ext ((Ext.refl _).alloc _)).ext ((Ext.refl _).alloc _), (BoxAt.new (by simp) rfl).ext ((Ext.refl _).alloc _), BoxAt.new (by simp) rfl⟩ ?_
  · repeat (first | (with_reducible exact Ext.refl _) | (with_reducible refine Ext.set_ ?_ _ ?_; focus (first | (simp; done) | (simp; omega) | (simp at *; omega))) | (with_reducible refine Ext.alloc ?_ _) | (with_reducible refine Ext.drew ?_) | (with_reducible refine Ext.drewN ?_ _) | (with_reducible refine Ext.trans ?_ (by assumption)))
  rintro W ⟨hE, hb0, hb1, hb2, hb3, hb4⟩
  have b07 := hb0.cells.get 7 _ rfl
  simp only [Nat.zero_add] at b07
  have HE := Lib.hid hE; have HB0 := Lib.hid hb0; have HB1 := Lib.hid hb1; have HB2 := Lib.hid hb2; have HB3 := Lib.hid hb3; have HB4 := Lib.hid hb4
  clear hE hb0 hb1 hb2 hb3 hb4
  have b00 := HB0.out.cells.get 0 _ rfl
  simp only [Nat.zero_add] at b00
  have HC2 : Hid (∀ w', Ext W w' → w'.cell? ⟨g, o + R * 1, none⟩ = some (.slice B rl cb)) := Lib.hid (fun w' hw => by rw [Nat.mul_one]; exact ((HE.out.trans hw).cell hg).trans HC.out)
  go_upto_region 15 with fail
  refine wp_region_ext (by kernel_rfl) (by kernel_rfl) ?_; (repeat (first | (refine wpQuiet_step (fun K hK => ?_); go_simp; refine hK _ ?_; clear hK K) | (simp only [hq1]) | (simp only [hq2]) | (simp only [hq2n]) | (refine quiet_cell2 (.tmp 51) rfl rfl Try.underlying3 rfl rfl (fun w' hw => (HB0.out.ext hw).cells.get 1 _ rfl) ?_) | (refine quiet_cell2 (.tmp 57) rfl rfl Try.underlying3 rfl rfl (fun w' hw => (HB0.out.ext hw).cells.get 2 _ rfl) ?_) | (refine quiet_cell2 (.tmp 60) rfl rfl Try.underlying3 rfl rfl (fun w' hw => (HB0.out.ext hw).cells.get 1 _ rfl) ?_) | (refine quiet_idxS2 (i := R) (.tmp 59) _ rfl rfl Try.underlying50 size_slice59 rfl rfl h1 ?_) | (refine quiet_cell2 (.tmp 62) rfl rfl Try.underlying59 rfl rfl (fun w' hw => HC2.out w' hw) ?_) | (refine wpQuiet_step (fun K hK => ?_); go_simp; first | (refine ⟨_, fun w hw => rfl, hK _ ?_⟩; clear hK K)))); refine wpQuiet_nil ?_
  intro w1 hE1
  have HX := Lib.hid (HB1.out.ext hE1)
  have HY := Lib.hid (HB2.out.ext hE1)
  have HEE := Lib.hid (HE.out.trans hE1)
  go_wp2_with (first
    | (refine wpList_wish rfl fun K hK => wp_loadA (vs := [.int .i64 0, .int .i64 0, .float .f64 0, .string ⟨#[]⟩]) agg_val (.tmp 6) rfl rfl HY.out.cells (hK _ _ ?_))
    | (refine wpList_storeA (val_one Val.null) HX.out sizeVal rfl rfl (.tmp 4) _ rfl rfl rfl ?_; intro w9 hq1 hq2))
  exact back_ct rfl Val.null.cells (.int .i64 0) rfl rfl agg_val rfl hq1.cells ⟨_, rfl, (by rw [HL.out]; exact Val.like.refl _), Val.null_ok, But.to_ext HEE.out hq2 (by omega)⟩

set_option maxRecDepth 100000 in
set_option maxHeartbeats 8000000 in
theorem reval_col_in (R C : Nat) (v : Val) (A : Option Addr) (cap : Nat) (rv : Value) (rows : List (List Val)) (w : World) (hrows : RowsIn w rv rows) (h1 : R < rows.length) (h2 : C < rows[R].length) :
    Calls Try.prog 88 #[.agg #[.int .i64 1, .int .i64 (R : Int), .int .i64 (C : Int), .int .i64 v.kind, .int .i64 v.int, .float .f64 v.flt, .string v.text, .slice A 0 cap], rv] w (CalcR w (lookup rows (R : Int) (C : Int), 0)) := by
  obtain ⟨RA, rc, rfl, hrc⟩ := hrows.val
  have HR := Lib.hid hrows; clear hrows hrc
  obtain ⟨g, o, B, m, cb, rfl, _, hm, hcell, hvals⟩ := HR.out.at_ R h1
  have hg : g < w.heap.size := cell_lt hcell
  have HV := Lib.hid hvals; have HC := Lib.hid hcell
  have e1 : rows[R]? = some rows[R] := List.getElem?_eq_getElem h1
  subst hm
  have hq1 : decide ((R : Int) < (rows.length : Int)) = true := by simp; omega
  obtain ⟨g2, o2, rfl, _, hat, hok, hg2⟩ := hvals.at_ C h2
  have hq2 : decide ((C : Int) < (rows[R].length : Int)) = true := by simp; omega
  have e2 : rows[R][C]? = some rows[R][C] := List.getElem?_eq_getElem h2
  have hl : lookup rows (R : Int) (C : Int) = if rows[R][C].right = true then rows[R][C] else Val.null := by
    unfold lookup; simp [e1, e2]
  have HL0 := Lib.hid hl
  have hrt := Lib.hid (fun w => rright_of rows[R][C] w hok.flt)
  have HAT := Lib.hid hat; have HOK := Lib.hid hok
  clear hl e1 e2 hvals hcell hat hok
  unfold Val.cells at HAT
  generalize rows[R][C] = u at *
  generalize rows[R].length = rl at *
  go_enter Try.func88, Try.ntmps88
  go_upto_region 5 with fail
  refine nameV (fun u => Ext w u ∧ BoxAt u w.heap.size [.int .i64 1, .int .i64 (R : Int), .int .i64 (C : Int), .int .i64 v.kind, .int .i64 v.int, .float .f64 v.flt, .string v.text, (.slice A 0 cap)] ∧ BoxAt u (w.heap.size + 1) [.int .i64 0, .int .i64 0, .float .f64 0, .string ⟨#[]⟩] ∧ BoxAt u (w.heap.size + 2) [.int .i64 0, .int .i64 0, .float .f64 0, .string ⟨#[]⟩] ∧ BoxAt u (w.heap.size + 3) [.int .i64 0, .int .i64 0, .float .f64 0, .string ⟨#[]⟩] ∧ BoxAt u (w.heap.size + 4) [.int .i64 0, .int .i64 0, .float .f64 0, .string ⟨#[]⟩]) ⟨?_, ((((BoxAt.new rfl rfl).ext ((Ext.refl _).alloc _)).ext ((Ext.refl _).alloc _)).ext ((Ext.refl _).alloc _)).ext ((Ext.refl _).alloc _), (((BoxAt.new (by simp) rfl).ext ((Ext.refl _).alloc _)).ext ((Ext.refl _).alloc _)).ext ((Ext.refl _).alloc _), ((BoxAt.new (by simp) rfl).ext ((Ext.refl _).alloc _)).ext ((Ext.refl _).alloc _), (BoxAt.new (by simp) rfl).ext ((Ext.refl _).alloc _), BoxAt.new (by simp) rfl⟩ ?_
  · repeat (first | (with_reducible exact Ext.refl _) | (with_reducible refine Ext.set_ ?_ _ ?_; focus (first | (simp; done) | (simp; omega) | (simp at *; omega))) | (with_reducible refine Ext.alloc ?_ _) | (with_reducible refine Ext.drew ?_) | (with_reducible refine Ext.drewN ?_ _) | (with_reducible refine Ext.trans ?_ (by assumption)))
  rintro W ⟨hE, hb0, hb1, hb2, hb3, hb4⟩
  have b07 := hb0.cells.get 7 _ rfl
  simp only [Nat.zero_add] at b07
  have HE := Lib.hid hE; have HB0 := Lib.hid hb0; have HB1 := Lib.hid hb1; have HB2 := Lib.hid hb2; have HB3 := Lib.hid hb3; have HB4 := Lib.hid hb4
  clear hE hb0 hb1 hb2 hb3 hb4
  have b00 := HB0.out.cells.get 0 _ rfl
  simp only [Nat.zero_add] at b00
  have HC2 : Hid (∀ w', Ext W w' → w'.cell? ⟨g, o + R * 1, none⟩ = some (.slice (some ⟨g2, o2, none⟩) rl cb)) := Lib.hid (fun w' hw => by rw [Nat.mul_one]; exact ((HE.out.trans hw).cell hg).trans HC.out)
  cases hur : u.right
  · have HL : Hid (lookup rows (R : Int) (C : Int) = Val.null) := Lib.hid (by rw [HL0.out, hur]; rfl)
    rw [hur] at hrt
    clear hur HL0
    go_upto_region 15 with fail
    refine wp_region_ext (by kernel_rfl) (by kernel_rfl) ?_; (repeat (first | (simp only [hq1]) | (simp only [hq2]) | (refine quiet_cell2 (.tmp 51) rfl rfl Try.underlying3 rfl rfl (fun w' hw => (HB0.out.ext hw).cells.get 1 _ rfl) ?_; simp only [Act.put, List.setIfInBounds_toArray, List.set_cons_zero, List.set_cons_succ]) | (refine quiet_cell2 (.tmp 57) rfl rfl Try.underlying3 rfl rfl (fun w' hw => (HB0.out.ext hw).cells.get 2 _ rfl) ?_; simp only [Act.put, List.setIfInBounds_toArray, List.set_cons_zero, List.set_cons_succ]) | (refine quiet_cell2 (.tmp 60) rfl rfl Try.underlying3 rfl rfl (fun w' hw => (HB0.out.ext hw).cells.get 1 _ rfl) ?_; simp only [Act.put, List.setIfInBounds_toArray, List.set_cons_zero, List.set_cons_succ]) | (refine quiet_idxS2 (i := R) (.tmp 59) _ rfl rfl Try.underlying50 size_slice59 rfl rfl h1 ?_; simp only [Act.put, List.setIfInBounds_toArray, List.set_cons_zero, List.set_cons_succ]) | (refine quiet_cell2 (.tmp 62) rfl rfl Try.underlying59 rfl rfl (fun w' hw => HC2.out w' hw) ?_; simp only [Act.put, List.setIfInBounds_toArray, List.set_cons_zero, List.set_cons_succ]) | (refine quiet_cell2 (.tmp 69) rfl rfl Try.underlying3 rfl rfl (fun w' hw => (HB0.out.ext hw).cells.get 1 _ rfl) ?_; simp only [Act.put, List.setIfInBounds_toArray, List.set_cons_zero, List.set_cons_succ]) | (refine quiet_idxS2 (i := R) (.tmp 68) _ rfl rfl Try.underlying50 size_slice59 rfl rfl h1 ?_; simp only [Act.put, List.setIfInBounds_toArray, List.set_cons_zero, List.set_cons_succ]) | (refine quiet_cell2 (.tmp 71) rfl rfl Try.underlying59 rfl rfl (fun w' hw => HC2.out w' hw) ?_; simp only [Act.put, List.setIfInBounds_toArray, List.set_cons_zero, List.set_cons_succ]) | (refine quiet_cell2 (.tmp 73) rfl rfl Try.underlying3 rfl rfl (fun w' hw => (HB0.out.ext hw).cells.get 2 _ rfl) ?_; simp only [Act.put, List.setIfInBounds_toArray, List.set_cons_zero, List.set_cons_succ]) | (refine quiet_idxS2 (i := C) (.tmp 72) _ rfl rfl Try.underlying59 sizeVal rfl rfl h2 ?_; simp only [Act.put, List.setIfInBounds_toArray, List.set_cons_zero, List.set_cons_succ]) | (refine quiet_loadA2 (vs := [.int .i64 u.kind, .int .i64 u.int, .float .f64 u.flt, .string u.text]) (.tmp 75) rfl rfl agg_val rfl (fun w' hw => HAT.out.ext (HE.out.trans hw) hg2) ?_; simp only [Act.put, List.setIfInBounds_toArray, List.set_cons_zero, List.set_cons_succ]) | (refine wpQuiet_step (fun K hK => ?_); go_simp; first | (refine hK _ ?_; clear hK K) | (refine ⟨_, fun w hw => rfl, hK _ ?_⟩; clear hK K) | (apply Exists.intro; refine ⟨fun w hw => ?_, hK _ ?_⟩; (focus first | (go_at_call 130; exact (hrt.out _).mono fun _ _ ⟨h1, h2⟩ => ⟨h1, hw.trans h2⟩)); clear hK K)))); refine wpQuiet_nil ?_
    intro w1 hE1
    have HX := Lib.hid (HB1.out.ext hE1)
    have HY := Lib.hid (HB2.out.ext hE1)
    have HEE := Lib.hid (HE.out.trans hE1)
    go_wp2_with (first
      | (refine wpList_wish rfl fun K hK => wp_loadA (vs := [.int .i64 0, .int .i64 0, .float .f64 0, .string ⟨#[]⟩]) agg_val (.tmp 6) rfl rfl HY.out.cells (hK _ _ ?_))
      | (refine wpList_storeA (val_one Val.null) HX.out sizeVal rfl rfl (.tmp 4) _ rfl rfl rfl ?_; intro w9 hq1 hq2))
    exact back_ct rfl Val.null.cells (.int .i64 0) rfl rfl agg_val rfl hq1.cells ⟨_, rfl, (by rw [HL.out]; exact Val.like.refl _), Val.null_ok, But.to_ext HEE.out hq2 (by omega)⟩
  · have HL : Hid (lookup rows (R : Int) (C : Int) = u) := Lib.hid (by rw [HL0.out, hur]; rfl)
    rw [hur] at hrt
    clear hur HL0
    go_upto_region 15 with fail
    refine wp_region_ext (by kernel_rfl) (by kernel_rfl) ?_; (repeat (first | (simp only [hq1]) | (simp only [hq2]) | (refine quiet_cell2 (.tmp 51) rfl rfl Try.underlying3 rfl rfl (fun w' hw => (HB0.out.ext hw).cells.get 1 _ rfl) ?_; simp only [Act.put, List.setIfInBounds_toArray, List.set_cons_zero, List.set_cons_succ]) | (refine quiet_cell2 (.tmp 57) rfl rfl Try.underlying3 rfl rfl (fun w' hw => (HB0.out.ext hw).cells.get 2 _ rfl) ?_; simp only [Act.put, List.setIfInBounds_toArray, List.set_cons_zero, List.set_cons_succ]) | (refine quiet_cell2 (.tmp 60) rfl rfl Try.underlying3 rfl rfl (fun w' hw => (HB0.out.ext hw).cells.get 1 _ rfl) ?_; simp only [Act.put, List.setIfInBounds_toArray, List.set_cons_zero, List.set_cons_succ]) | (refine quiet_idxS2 (i := R) (.tmp 59) _ rfl rfl Try.underlying50 size_slice59 rfl rfl h1 ?_; simp only [Act.put, List.setIfInBounds_toArray, List.set_cons_zero, List.set_cons_succ]) | (refine quiet_cell2 (.tmp 62) rfl rfl Try.underlying59 rfl rfl (fun w' hw => HC2.out w' hw) ?_; simp only [Act.put, List.setIfInBounds_toArray, List.set_cons_zero, List.set_cons_succ]) | (refine quiet_cell2 (.tmp 69) rfl rfl Try.underlying3 rfl rfl (fun w' hw => (HB0.out.ext hw).cells.get 1 _ rfl) ?_; simp only [Act.put, List.setIfInBounds_toArray, List.set_cons_zero, List.set_cons_succ]) | (refine quiet_idxS2 (i := R) (.tmp 68) _ rfl rfl Try.underlying50 size_slice59 rfl rfl h1 ?_; simp only [Act.put, List.setIfInBounds_toArray, List.set_cons_zero, List.set_cons_succ]) | (refine quiet_cell2 (.tmp 71) rfl rfl Try.underlying59 rfl rfl (fun w' hw => HC2.out w' hw) ?_; simp only [Act.put, List.setIfInBounds_toArray, List.set_cons_zero, List.set_cons_succ]) | (refine quiet_cell2 (.tmp 73) rfl rfl Try.underlying3 rfl rfl (fun w' hw => (HB0.out.ext hw).cells.get 2 _ rfl) ?_; simp only [Act.put, List.setIfInBounds_toArray, List.set_cons_zero, List.set_cons_succ]) | (refine quiet_idxS2 (i := C) (.tmp 72) _ rfl rfl Try.underlying59 sizeVal rfl rfl h2 ?_; simp only [Act.put, List.setIfInBounds_toArray, List.set_cons_zero, List.set_cons_succ]) | (refine quiet_loadA2 (vs := [.int .i64 u.kind, .int .i64 u.int, .float .f64 u.flt, .string u.text]) (.tmp 75) rfl rfl agg_val rfl (fun w' hw => HAT.out.ext (HE.out.trans hw) hg2) ?_; simp only [Act.put, List.setIfInBounds_toArray, List.set_cons_zero, List.set_cons_succ]) | (refine wpQuiet_step (fun K hK => ?_); go_simp; first | (refine hK _ ?_; clear hK K) | (refine ⟨_, fun w hw => rfl, hK _ ?_⟩; clear hK K) | (apply Exists.intro; refine ⟨fun w hw => ?_, hK _ ?_⟩; (focus first | (go_at_call 130; exact (hrt.out _).mono fun _ _ ⟨h1, h2⟩ => ⟨h1, hw.trans h2⟩)); clear hK K)))); refine wpQuiet_nil ?_
    intro w1 hE1
    go_upto_region 16 with fail
    refine nameV (fun u => Ext W u) hE1 ?_
    intro W6 hE6
    have HZ0 := Lib.hid (HB0.out.ext hE6); have HZ1 := Lib.hid (HB1.out.ext hE6); have HE6 := Lib.hid (HE.out.trans hE6)
    have HC6 := Lib.hid (HC2.out W6 hE6); have HU6 := Lib.hid (HAT.out.ext (HE.out.trans hE6) hg2)
    have hgs : g < W6.heap.size := Nat.lt_of_lt_of_le hg HE6.out.size
    have hgs2 : g2 < W6.heap.size := Nat.lt_of_lt_of_le hg2 HE6.out.size
    clear HB0 HB1 HB2 HB3 HB4 HE HC2 hE6
    refine wp_region_held (S := ButS (fun k => k = w.heap.size + 1) W6) (by kernel_rfl) ?_
    change wpAnyH _ _ _ _ _ _ _ _ W6.drew
    have HS0 := Lib.hid ((ButS.refl (fun k => k = w.heap.size + 1) W6).drew)
    refine held_run (i := 0) (.slice (some ⟨g, o, none⟩) rows.length rc) rfl (by kernel_rfl) (by kernel_rfl) (by kernel_rfl) (fun _ _ _ h => h) rfl (fun u _ => by go_simp) HS0.out ?_
    simp only [Act.put, List.setIfInBounds_toArray, List.set_cons_zero, List.set_cons_succ]
    refine held_run (i := 1) (.pointer (some ⟨w.heap.size, 1, none⟩)) rfl (by kernel_rfl) (by kernel_rfl) (by kernel_rfl) (fun _ _ _ h => h) rfl (fun u _ => by go_simp) HS0.out ?_
    simp only [Act.put, List.setIfInBounds_toArray, List.set_cons_zero, List.set_cons_succ]
    refine held_cell (i := 2) (v := .int .i64 (R : Int)) (.tmp 80) rfl rfl (by kernel_rfl) (by kernel_rfl) (by kernel_rfl) (fun _ _ _ h => h) rfl Try.underlying3 rfl rfl (fun u h => (ButS.box h (by omega) HZ0.out).cells.get 1 _ rfl) HS0.out ?_
    simp only [Act.put, List.setIfInBounds_toArray, List.set_cons_zero, List.set_cons_succ]
    refine held_idxS (i := 3) R (.tmp 79) (.tmp 81) rfl rfl (by kernel_rfl) (by kernel_rfl) (by kernel_rfl) (fun _ _ _ h => h) rfl Try.underlying50 size_slice59 rfl rfl h1 HS0.out ?_
    simp only [Act.put, List.setIfInBounds_toArray, List.set_cons_zero, List.set_cons_succ]
    refine held_cell (i := 4) (v := .slice (some ⟨g2, o2, none⟩) rl cb) (.tmp 82) rfl rfl (by kernel_rfl) (by kernel_rfl) (by kernel_rfl) (fun _ _ _ h => h) rfl Try.underlying59 rfl rfl (fun u h => ((h.at_ g hgs (by omega)).1 _).trans HC6.out) HS0.out ?_
    simp only [Act.put, List.setIfInBounds_toArray, List.set_cons_zero, List.set_cons_succ]
    refine held_run (i := 5) (.pointer (some ⟨w.heap.size, 2, none⟩)) rfl (by kernel_rfl) (by kernel_rfl) (by kernel_rfl) (fun _ _ _ h => h) rfl (fun u _ => by go_simp) HS0.out ?_
    simp only [Act.put, List.setIfInBounds_toArray, List.set_cons_zero, List.set_cons_succ]
    refine held_cell (i := 6) (v := .int .i64 (C : Int)) (.tmp 84) rfl rfl (by kernel_rfl) (by kernel_rfl) (by kernel_rfl) (fun _ _ _ h => h) rfl Try.underlying3 rfl rfl (fun u h => (ButS.box h (by omega) HZ0.out).cells.get 2 _ rfl) HS0.out ?_
    simp only [Act.put, List.setIfInBounds_toArray, List.set_cons_zero, List.set_cons_succ]
    refine held_idxS (i := 7) C (.tmp 83) (.tmp 85) rfl rfl (by kernel_rfl) (by kernel_rfl) (by kernel_rfl) (fun _ _ _ h => h) rfl Try.underlying59 sizeVal rfl rfl h2 HS0.out ?_
    simp only [Act.put, List.setIfInBounds_toArray, List.set_cons_zero, List.set_cons_succ]
    refine held_loadA (i := 8) (vs := [.int .i64 u.kind, .int .i64 u.int, .float .f64 u.flt, .string u.text]) (.tmp 86) rfl rfl (by kernel_rfl) (by kernel_rfl) (by kernel_rfl) (fun _ _ _ h => h) rfl agg_val rfl (fun x h => HU6.out.keep (h.at_ g2 hgs2 (by omega)).1) HS0.out ?_
    simp only [Act.put, List.setIfInBounds_toArray, List.set_cons_zero, List.set_cons_succ]
    refine held_do (i := 9) rfl (by kernel_rfl) rfl fun K hK => ?_
    refine wp_storeA (vs' := u.cells) (val_one u) (HZ1.out.ext (Ext.refl _).drew) sizeVal rfl (.tmp 4) (.tmp 87) rfl rfl rfl ?_
    intro w9 hq1 hq2
    have HS1 := Lib.hid (HS0.out.trans (ButS.of_but (M := fun k => k = w.heap.size + 1) hq2 rfl))
    refine hK _ _ HS1.out ?_
    clear hK K
    simp only [Act.put, List.setIfInBounds_toArray, List.set_cons_zero, List.set_cons_succ]
    refine held_run (i := 10) (.int .i64 0) rfl (by kernel_rfl) (by kernel_rfl) (by kernel_rfl) (fun _ _ _ h => h) rfl (fun u _ => by go_simp) HS1.out ?_
    simp only [Act.put, List.setIfInBounds_toArray, List.set_cons_zero, List.set_cons_succ]
    refine wpAnyH_done (by kernel_rfl) ?_ _
    go_wp2_with fail
    exact back_ct rfl u.cells (.int .i64 0) rfl rfl agg_val rfl hq1.cells ⟨_, rfl, (by rw [HL.out]; exact Val.like.refl _), HOK.out, But.to_ext HE6.out.drew hq2 (by omega)⟩
theorem reval_col (R C : Nat) (v : Val) (A : Option Addr) (cap : Nat) (rv : Value) (rows : List (List Val)) (w : World) (hrows : RowsIn w rv rows) :
    Calls Try.prog 88 #[.agg #[.int .i64 1, .int .i64 (R : Int), .int .i64 (C : Int), .int .i64 v.kind, .int .i64 v.int, .float .f64 v.flt, .string v.text, .slice A 0 cap], rv] w (CalcR w (lookup rows (R : Int) (C : Int), 0)) := by
  by_cases h1 : R < rows.length
  · by_cases h2 : C < rows[R].length
    · exact reval_col_in R C v A cap rv rows w hrows h1 h2
    · exact reval_col_c R C v A cap rv rows w hrows h1 h2
  · exact reval_col_r R C v A cap rv rows w hrows h1
end Go.Proofs.Ytlcdjaclahhdnaa
