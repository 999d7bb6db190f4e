/- Slices of expressions that are laid anew; the calls of tabularylaw22.col, lit, of. The chapter's examples of layer 22, plain. The chapter's examples of layer 22 hold: the call of works. -/
import Derived.Test.YtlcdjaclahhdnaaRl
import Derived.Test.YtlcdjaclahhdnaaTy6
import Derived.Test.YtlcdjaclahhdnaaEval
import Derived.Test.YtlcdjaclahhdnaaVal4
import Derived.Test.YtlcdjaclahhdnaaWorks4
import Derived.Deep.RegionHeld3
import Derived.Deep.DeepCutAuto
namespace Go.Proofs.Ytlcdjaclahhdnaa
open Go.RowKit
set_option linter.unusedSimpArgs false
set_option linter.unusedVariables false

def exsCells : List Ex → List Value → List Value
  | e :: l, s :: ss => e.cells s ++ exsCells l ss
  | _, _ => []
theorem at_append {w : World} {g : Nat} : ∀ {us vs : List Value} {o : Nat}, At w g o (us ++ vs) → At w g o us ∧ At w g (o + us.length) vs
  | [], vs, o, h => ⟨trivial, by simpa using h⟩
  | u :: us, vs, o, h => by
    obtain ⟨h1, h2⟩ := h
    obtain ⟨h3, h4⟩ := at_append h2
    refine ⟨⟨h1, h3⟩, ?_⟩
    rwa [show o + (u :: us).length = o + 1 + us.length by simp; omega]
theorem exs_at {w : World} {g : Nat} : ∀ {l : List Ex} {ss : List Value} {o : Nat}, ss.length = l.length → (∀ i (hi : i < l.length) (hj : i < ss.length), Ex.In w l[i] ss[i]) → At w g o (exsCells l ss) → Exs.At w g o l
  | [], _, _, _, _, _ => by simp [Exs.At]
  | e :: l, [], _, hl, _, _ => by simp at hl
  | e :: l, s :: ss, o, hl, hin, h => by
    simp only [exsCells] at h
    obtain ⟨h1, h2⟩ := at_append h
    simp only [Exs.At]
    refine ⟨⟨s, h1, hin 0 (by simp) (by simp)⟩, exs_at (by simpa using hl) (fun i hi hj => hin (i + 1) (by simpa using hi) (by simpa using hj)) ?_⟩
    have e8 : (e.cells s).length = 8 := rfl
    rwa [e8] at h2
/-- A slice of expressions laid anew. -/
theorem ExsIn.new {w : World} {l : List Ex} {ss : List Value} {n cap : Nat} {A : Array Value} (hn : n = l.length) (hl : ss.length = l.length) (h1 : n ≤ 1000) (hc : n ≤ cap) (hA : A = (exsCells l ss).toArray)
    (hin : ∀ i (hi : i < l.length) (hj : i < ss.length), Ex.In w l[i] ss[i]) : ExsIn (w.alloc (.cells A 27)) (.slice (some ⟨w.heap.size, 0, none⟩) n cap) l := by
  subst hn
  refine ⟨by omega, _, cap, rfl, hc, (fun h => by cases h), fun _ => ⟨_, _, rfl, ?_⟩⟩
  exact exs_at hl (fun i hi hj => Ex.In.ext ((Ext.refl _).alloc _) _ _ (hin i hi hj)) (At.new rfl _ _ _ hA)
theorem Ex.In.mk_of {w : World} {k r c : Int} {v : Val} {l : List Ex} {s : Value} (hk : I64 k) (hr : I64 r) (hc : I64 c) (hv : v.Ok) (h : ExsIn w s l) : Ex.In w (.mk k r c v l) s := by
  simp only [Ex.In]
  exact ⟨hk, hr, hc, hv, h⟩
theorem ExsIn.nil (w : World) : ExsIn w (.slice none 0 0) [] := ⟨by simp, none, 0, rfl, Nat.le_refl _, fun _ => rfl, fun h => absurd rfl h⟩

set_option maxHeartbeats 400000 in
theorem mkof_of (k : Int) (A : Option Addr) (n cap : Nat) (w : World) : Calls Try.prog 34 #[.int .i64 k, .slice A n cap] w fun e w' => e = .returned (.agg (exCells k 0 0 Val.null (.slice A n cap)).toArray) ∧ Ext w w' := by
  go_enter Try.func34, Try.ntmps34
  go_wp2
  refine back_cell Try.results34 (exCells k 0 0 Val.null (.slice A n cap)) rfl agg_ex rfl ?_ ⟨rfl, ?_⟩
  · simp only [At, exCells, Val.null]; repeat (first | exact trivial | (refine ⟨?_, ?_⟩; focus go_simp))
  · repeat (first | (with_reducible exact Ext.refl _) | (with_reducible refine Ext.set_ ?_ _ ?_; focus (first | (simp; done) | (simp; omega) | (simp at *; omega))) | (with_reducible refine Ext.alloc ?_ _) | (with_reducible refine Ext.drew ?_) | (with_reducible refine Ext.drewN ?_ _) | (with_reducible refine Ext.trans ?_ (by assumption)))
set_option maxHeartbeats 400000 in
theorem col_of (r c : Int) (w : World) : Calls Try.prog 51 #[.int .i64 r, .int .i64 c] w fun e w' => e = .returned (.agg (exCells 1 r c Val.null (.slice none 0 0)).toArray) ∧ Ext w w' := by
  go_enter Try.func51, Try.ntmps51
  go_wp2
  refine back_cell Try.results51 (exCells 1 r c Val.null (.slice none 0 0)) rfl agg_ex rfl ?_ ⟨rfl, ?_⟩
  · simp only [At, exCells, Val.null]; repeat (first | exact trivial | (refine ⟨?_, ?_⟩; focus go_simp))
  · repeat (first | (with_reducible exact Ext.refl _) | (with_reducible refine Ext.set_ ?_ _ ?_; focus (first | (simp; done) | (simp; omega) | (simp at *; omega))) | (with_reducible refine Ext.alloc ?_ _) | (with_reducible refine Ext.drew ?_) | (with_reducible refine Ext.drewN ?_ _) | (with_reducible refine Ext.trans ?_ (by assumption)))
set_option maxHeartbeats 400000 in
theorem lit_of (v : Val) (w : World) : Calls Try.prog 52 #[.agg #[.int .i64 v.kind, .int .i64 v.int, .float .f64 v.flt, .string v.text]] w fun e w' => e = .returned (.agg (exCells 2 0 0 v (.slice none 0 0)).toArray) ∧ Ext w w' := by
  go_enter Try.func52, Try.ntmps52
  go_wp2
  refine back_cell Try.results52 (exCells 2 0 0 v (.slice none 0 0)) rfl agg_ex rfl ?_ ⟨rfl, ?_⟩
  · simp only [At, exCells]; repeat (first | exact trivial | (refine ⟨?_, ?_⟩; focus go_simp))
  · repeat (first | (with_reducible exact Ext.refl _) | (with_reducible refine Ext.set_ ?_ _ ?_; focus (first | (simp; done) | (simp; omega) | (simp at *; omega))) | (with_reducible refine Ext.alloc ?_ _) | (with_reducible refine Ext.drew ?_) | (with_reducible refine Ext.drewN ?_ _) | (with_reducible refine Ext.trans ?_ (by assumption)))
end Go.Proofs.Ytlcdjaclahhdnaa
namespace Go.Proofs.Ytlcdjaclahhdnaa
open Go.RowKit
set_option linter.unusedSimpArgs false
set_option linter.unusedVariables false

def exCol (r c : Int) : Ex := .mk 1 r c Val.null []
def exLit (v : Val) : Ex := .mk 2 0 0 v []
/-- 'the column 0.0 is less than 5'. -/
def w22e : Ex := .mk 8 0 0 Val.null [exCol 0 0, exLit (Val.number 5)]
/-- '1 + 1.0'. -/
def w22t : Ex := .mk 3 0 0 Val.null [exLit (Val.number 1), exLit (Val.float 4607182418800017408)]
theorem w22e_count : w22e.count 1 400 = 397 := by
  have h1 := fine_null
  have h2 := fine_number 5
  simp [w22e, exCol, exLit, Ex.count, Exs.count, kidsOf, fieldsOk, inRel, h1, h2, Val.null, Val.number] at *
theorem w22t_count : w22t.count 1 400 = 397 := by
  have h1 := fine_null
  have h2 := fine_number 1
  have h3 := fine_float 4607182418800017408
  simp [w22t, exCol, exLit, Ex.count, Exs.count, kidsOf, fieldsOk, inRel, h1, h2, h3, Val.null, Val.number, Val.float] at *
theorem plain_number (n : Int) : (Val.number n).plain = Val.number n := by
  unfold Val.plain; rw [if_pos (fine_number n)]; rfl
theorem w22e_eval3 : w22e.Eval [[Val.number 3]] = (Val.truth true, 0) := by
  have e : w22e.eval [[Val.number 3]] = (Val.truth true, 0) := by
    have h2 := fine_number 5
    have h3 := fine_number 3
    have hl : lookup [[Val.number 3]] 0 0 = Val.number 3 := by simp [lookup, h3]
    have ht : Val.test 8 (Val.number 3) (Val.number 5) = (Val.truth true, 0) := by
      unfold Val.test Val.cmp
      rw [h2, h3, plain_number, plain_number]
      simp [Val.number, icmp]
    simp [w22e, exCol, exLit, Ex.eval, Exs.eval, evalHead, hl, ht]
  unfold Ex.Eval
  rw [w22e_count, e]
  rfl
theorem w22e_evaln : w22e.Eval [[Val.null]] = (Val.null, 0) := by
  have e : w22e.eval [[Val.null]] = (Val.null, 0) := by
    have h2 := fine_number 5
    have h3 := fine_null
    have hl : lookup [[Val.null]] 0 0 = Val.null := by simp [lookup, h3]
    have ht : Val.test 8 Val.null (Val.number 5) = (Val.null, 0) := by
      unfold Val.test
      rw [h2, h3]
      simp [Val.null]
    simp [w22e, exCol, exLit, Ex.eval, Exs.eval, evalHead, hl, ht]
  unfold Ex.Eval
  rw [w22e_count, e]
  rfl
theorem w22e_rels : w22e.rels = 1 := by decide
theorem w22t_type : w22t.type [] = (0, 50) := by
  have e1 : w22t.refs [] = true := by simp [w22t, exLit, Ex.refs, Exs.refs]
  have e2 : w22t.typed [] = (0, 50) := by
    simp [w22t, exLit, Ex.typed, Exs.typed, firstErr, typedHead, oneR, numericK, Val.number, Val.float]
  unfold Ex.type
  rw [w22t_count, e1, e2]
  rfl
theorem number_ok' : (Val.number 5).Ok ∧ (Val.number 3).Ok ∧ (Val.number 1).Ok ∧ (Val.float 4607182418800017408).Ok := ⟨number_ok (by omega), number_ok (by omega), number_ok (by omega), float_ok (by decide)⟩
theorem exCol_in (w : World) : Ex.In w (exCol 0 0) (.slice none 0 0) := Ex.In.mk_of ⟨by decide, by decide⟩ ⟨by decide, by decide⟩ ⟨by decide, by decide⟩ Val.null_ok (ExsIn.nil w)
theorem exLit_in (v : Val) (hv : v.Ok) (w : World) : Ex.In w (exLit v) (.slice none 0 0) := Ex.In.mk_of ⟨by decide, by decide⟩ ⟨by decide, by decide⟩ ⟨by decide, by decide⟩ hv (ExsIn.nil w)
/-- One row of one value, laid anew. -/
theorem RowsIn.one {w : World} {g h : Nat} {v : Val} (hv : v.Ok) (h1 : At w g 0 v.cells) (h2 : w.cell? ⟨h, 0, none⟩ = some (.slice (some ⟨g, 0, none⟩) 1 1)) : RowsIn w (.slice (some ⟨h, 0, none⟩) 1 1) [[v]] := by
  refine ⟨⟨_, 1, rfl, Nat.le_refl _, (fun h => by cases h), fun _ => ⟨h, 0, rfl, fun i hi => ?_⟩⟩, by simp, by simp⟩
  obtain rfl : i = 0 := by simpa using hi
  refine ⟨_, h2, ⟨⟨_, 1, rfl, Nat.le_refl _, (fun h => by cases h), fun _ => ⟨g, 0, rfl, ?_⟩⟩, by simpa using hv⟩⟩
  simpa [vc] using h1
end Go.Proofs.Ytlcdjaclahhdnaa
namespace Go.Proofs.Ytlcdjaclahhdnaa
open Go.RowKit
set_option linter.unusedSimpArgs false
set_option linter.unusedVariables false

theorem bcell {W w1 : World} (hb : Ext W w1) : (∀ b o, b < W.heap.size → w1.cell? ⟨b, o, none⟩ = W.cell? ⟨b, o, none⟩) ∧ (∀ b o, b < W.heap.size → w1.frozen? ⟨b, o, none⟩ = W.frozen? ⟨b, o, none⟩) :=
  ⟨fun b o h => hb.cell (p := ⟨b, o, none⟩) h, fun b o h => hb.frozen (p := ⟨b, o, none⟩) h⟩
/-- One cell of a box, stored into. -/
theorem BoxAt.setAt {w : World} {g i : Nat} {vs : List Value} (u : Value) (h : BoxAt w g vs) (hi : i < vs.length) : BoxAt (w.setCell ⟨g, i, none⟩ u) g (vs.set i u) := by
  have hc := h.cells.get i vs[i] (List.getElem?_eq_getElem hi)
  rw [Nat.zero_add] at hc
  refine ⟨At.of_get fun j v hv => ?_, fun j => by rw [World.frozen?_setCell]; exact h.free j, by simpa [World.setCell] using h.lt⟩
  rw [Nat.zero_add]
  by_cases hij : i = j
  · subst hij
    rw [List.getElem?_set_self hi] at hv
    injection hv with hv; subst hv
    exact World.cell?_setCell_same' _ _ _ (by rw [hc]; rfl)
  · rw [List.getElem?_set_ne hij] at hv
    have := h.cells.get j v hv
    rw [Nat.zero_add] at this
    rw [← this]
    apply World.cell?_setCell_other
    simp [hij]
theorem BoxAt.set4 {w : World} {g : Nat} {a b c d : Value} (u0 u1 u2 u3 : Value) (h : BoxAt w g [a, b, c, d]) :
    BoxAt ((((w.setCell ⟨g, 0, none⟩ u0).setCell ⟨g, 1, none⟩ u1).setCell ⟨g, 2, none⟩ u2).setCell ⟨g, 3, none⟩ u3) g [u0, u1, u2, u3] :=
  (((h.setAt u0 (by simp)).setAt u1 (by simp)).setAt u2 (by simp)).setAt u3 (by simp)
theorem Ext.set4 {w0 w : World} {g : Nat} {u0 u1 u2 u3 : Value} (h : Ext w0 w) (hg : w0.heap.size ≤ g) : Ext w0 ((((w.setCell ⟨g, 0, none⟩ u0).setCell ⟨g, 1, none⟩ u1).setCell ⟨g, 2, none⟩ u2).setCell ⟨g, 3, none⟩ u3) :=
  (((h.set (p := ⟨g, 0, none⟩) hg _).set (p := ⟨g, 1, none⟩) hg _).set (p := ⟨g, 2, none⟩) hg _).set (p := ⟨g, 3, none⟩) hg _
theorem mark3 {P : Program} {f : FuncId} {args : Array Value} {w : World} {b c d : Obj} {Q : Ending → World → Prop} (h : Calls P f args (((w.alloc b).alloc c).alloc d) Q) : Calls P f args (((w.alloc b).alloc c).alloc d) Q := h
theorem mark1 {P : Program} {f : FuncId} {args : Array Value} {w : World} {b : Obj} {Q : Ending → World → Prop} (h : Calls P f args (w.alloc b).drew Q) : Calls P f args (w.alloc b).drew Q := h
theorem w22e_in {w : World} : Ex.In (w.alloc (.cells (exsCells [exCol 0 0, exLit (Val.number 5)] [.slice none 0 0, .slice none 0 0]).toArray 27)) w22e (.slice (some ⟨w.heap.size, 0, none⟩) 2 2) := by
  refine Ex.In.mk_of ⟨by decide, by decide⟩ ⟨by decide, by decide⟩ ⟨by decide, by decide⟩ Val.null_ok (ExsIn.new rfl rfl (by decide) (by decide) rfl ?_)
  intro i hi hj
  match i, hi with
  | 0, _ => exact exCol_in _
  | 1, _ => exact exLit_in _ number_ok'.1 _
theorem w22t_in {w : World} : Ex.In (w.alloc (.cells (exsCells [exLit (Val.number 1), exLit (Val.float 4607182418800017408)] [.slice none 0 0, .slice none 0 0]).toArray 27)) w22t (.slice (some ⟨w.heap.size, 0, none⟩) 2 2) := by
  refine Ex.In.mk_of ⟨by decide, by decide⟩ ⟨by decide, by decide⟩ ⟨by decide, by decide⟩ Val.null_ok (ExsIn.new rfl rfl (by decide) (by decide) rfl ?_)
  intro i hi hj
  match i, hi with
  | 0, _ => exact exLit_in _ number_ok'.2.2.1 _
  | 1, _ => exact exLit_in _ number_ok'.2.2.2 _

set_option maxRecDepth 100000 in
set_option maxHeartbeats 4000000 in
theorem works22 (w : World) : Calls Try.prog 13 #[] w fun e w' => e = .returned (.bool true) ∧ Ext w w' := by
  have HCOL := Lib.hid (col_of 0 0)
  have HN5 := Lib.hid (number_of 5)
  have HL5 := Lib.hid (lit_of (Val.number 5))
  have HOF := Lib.hid (fun A n cap w => mkof_of 8 A n cap w)
  unfold exCells Val.null at HCOL HOF
  unfold exCells at HL5
  unfold Val.enc at HN5
  simp only [Val.number] at HL5 HN5
  go_enter Try.func13, Try.ntmps13
  go_upto_region 2 with (first
    | (go_at_call 51; refine (HCOL.out _).mono ?_; rintro e w1 ⟨rfl, hb1⟩)
    | (go_at_call 53; refine (HN5.out _).mono ?_; rintro e w2 ⟨rfl, hb2⟩)
    | (go_at_call 52; refine (HL5.out _).mono ?_; rintro e w3 ⟨rfl, hb3⟩)
    | (go_at_call 34; refine (HOF.out _ _ _ _).mono ?_; rintro e w4 ⟨rfl, hb4⟩))
  have hb := BoxAt.new (w := w4) (g := w4.heap.size) rfl (vs := w22e.cells (.slice (some ⟨w3.heap.size, 0, none⟩) 2 2)) (t := 27) (A := #[.int .i64 8, .int .i64 0, .int .i64 0, .int .i64 0, .int .i64 0, .float .f64 0, .string ⟨#[]⟩, .slice (some ⟨w3.heap.size, 0, none⟩) 2 2]) rfl
  have hin : Ex.In (w4.alloc (.cells #[.int .i64 8, .int .i64 0, .int .i64 0, .int .i64 0, .int .i64 0, .float .f64 0, .string ⟨#[]⟩, .slice (some ⟨w3.heap.size, 0, none⟩) 2 2] 27)) w22e (.slice (some ⟨w3.heap.size, 0, none⟩) 2 2) := Ex.In.ext (hb4.alloc _) _ _ w22e_in
  have hE : Ext w (w4.alloc (.cells #[.int .i64 8, .int .i64 0, .int .i64 0, .int .i64 0, .int .i64 0, .float .f64 0, .string ⟨#[]⟩, .slice (some ⟨w3.heap.size, 0, none⟩) 2 2] 27)) := by repeat (first | (with_reducible exact Ext.refl _) | (with_reducible refine Ext.set_ ?_ _ ?_; focus (first | (simp; done) | (simp; omega) | (simp at *; omega))) | (with_reducible refine Ext.alloc ?_ _) | (with_reducible refine Ext.drew ?_) | (with_reducible refine Ext.drewN ?_ _) | (with_reducible refine Ext.trans ?_ (by assumption)))
  generalize w4.alloc (.cells #[.int .i64 8, .int .i64 0, .int .i64 0, .int .i64 0, .int .i64 0, .float .f64 0, .string ⟨#[]⟩, .slice (some ⟨w3.heap.size, 0, none⟩) 2 2] 27) = W at *
  generalize w4.heap.size = q at *
  generalize w3.heap.size = g at *
  clear hb1 hb2 hb3 hb4 HCOL HN5 HL5 w1 w2 w3 w4
  have HIN := Lib.hid hin; clear hin
  have hq := hb.lt
  have HE := Lib.hid hE; clear hE
  have HEV : Hid (∀ u h1, Ext W u → (∃ g1, At u g1 0 [.int .i64 2, .int .i64 3, .float .f64 0, .string ⟨#[]⟩] ∧ u.cell? ⟨h1, 0, none⟩ = some (.slice (some ⟨g1, 0, none⟩) 1 1)) → Calls Try.prog 28 #[.agg #[.int .i64 8, .int .i64 0, .int .i64 0, .int .i64 0, .int .i64 0, .float .f64 0, .string ⟨#[]⟩, .slice (some ⟨g, 0, none⟩) 2 2], .slice (some ⟨h1, 0, none⟩) 1 1] u fun e w' => e = .returned (.tuple #[.agg #[.int .i64 1, .int .i64 1, .float .f64 0, .string ⟨#[]⟩], .int .i64 0]) ∧ Ext u w') := Lib.hid fun u h1 he h2 => by
    obtain ⟨g1, h2, h3⟩ := h2
    have h := Eval_of w22e _ u _ _ (Ex.In.ext he _ _ HIN.out) (RowsIn.one number_ok'.2.1 h2 h3)
    rw [w22e_eval3] at h
    exact h
  have HN3 := Lib.hid (number_of 3)
  unfold Val.enc at HN3
  simp only [Val.number] at HN3
  go_cut [2, 3] (fun s2 s3 wx => ∃ g2 : Nat, s3 = .int .i64 0 ∧ s2 = .pointer (some ⟨g2, 0, none⟩) ∧ BoxAt wx g2 [.int .i64 1, .int .i64 1, .float .f64 0, .string ⟨#[]⟩] ∧ Ext W wx)
  case first =>
    change BoxAt W q [.int .i64 8, .int .i64 0, .int .i64 0, .int .i64 0, .int .i64 0, .float .f64 0, .string ⟨#[]⟩, .slice (some ⟨g, 0, none⟩) 2 2] at hb
    obtain ⟨b0, b1, b2, b3, b4, b5, b6, b7, _⟩ := hb.cells
    have HB := Lib.hid hb
    simp only [Nat.zero_add, Nat.reduceAdd] at b0 b1 b2 b3 b4 b5 b6 b7
    clear hb
    have nq := World.new_ne W _ b0
    go_region_held3 (fun w' => w'.cell? ⟨q, 0, none⟩ = some (.int .i64 8) ∧ w'.cell? ⟨q, 1, none⟩ = some (.int .i64 0) ∧ w'.cell? ⟨q, 2, none⟩ = some (.int .i64 0) ∧ w'.cell? ⟨q, 3, none⟩ = some (.int .i64 0) ∧ w'.cell? ⟨q, 4, none⟩ = some (.int .i64 0) ∧ w'.cell? ⟨q, 5, none⟩ = some (.float .f64 0) ∧ w'.cell? ⟨q, 6, none⟩ = some (.string ⟨#[]⟩) ∧ w'.cell? ⟨q, 7, none⟩ = some (.slice (some ⟨g, 0, none⟩) 2 2)) (go_keep)
      (first
        | (go_at_call 53; (with_reducible refine mark1 ?_); (with_reducible refine (HN3.out _).mono ?_); rintro e w5 ⟨rfl, hb5⟩; have hE5 : Ext W w5 := (by repeat (first | (with_reducible exact Ext.refl _) | (with_reducible refine Ext.set_ ?_ _ ?_; focus (first | (simp; done) | (simp; omega) | (simp at *; omega))) | (with_reducible refine Ext.alloc ?_ _) | (with_reducible refine Ext.drew ?_) | (with_reducible refine Ext.drewN ?_ _) | (with_reducible refine Ext.trans ?_ (by assumption)))); obtain ⟨d0, d1, d2, d3, d4, d5, d6, d7, _⟩ := (HB.out.ext hE5).cells; simp only [Nat.zero_add, Nat.reduceAdd] at d0 d1 d2 d3 d4 d5 d6 d7; have nq5 : w5.heap.size ≠ q := (by have := hE5.size; omega); have nq51 : w5.heap.size + 1 ≠ q := (by have := hE5.size; omega); have nq52 : w5.heap.size + 1 + 1 ≠ q := (by have := hE5.size; omega); have lt5 : BoxAt w5 W.heap.size [.int .i64 0, .int .i64 0, .float .f64 0, .string ⟨#[]⟩] := ((BoxAt.new (w := W) (t := 24) rfl rfl).ext ((Ext.refl _).drew.trans hb5)))
        | (go_at_call 53; (with_reducible refine (HN3.out _).mono ?_); rintro e w5 ⟨rfl, hb5⟩; have hE5 : Ext W w5 := (by repeat (first | (with_reducible exact Ext.refl _) | (with_reducible refine Ext.set_ ?_ _ ?_; focus (first | (simp; done) | (simp; omega) | (simp at *; omega))) | (with_reducible refine Ext.alloc ?_ _) | (with_reducible refine Ext.drew ?_) | (with_reducible refine Ext.drewN ?_ _) | (with_reducible refine Ext.trans ?_ (by assumption)))); obtain ⟨d0, d1, d2, d3, d4, d5, d6, d7, _⟩ := (HB.out.ext hE5).cells; simp only [Nat.zero_add, Nat.reduceAdd] at d0 d1 d2 d3 d4 d5 d6 d7; have nq5 : w5.heap.size ≠ q := (by have := hE5.size; omega); have nq51 : w5.heap.size + 1 ≠ q := (by have := hE5.size; omega); have nq52 : w5.heap.size + 1 + 1 ≠ q := (by have := hE5.size; omega))
        | (go_at_call 28; have l9 := lt5; (refine (HEV.out _ _ (by repeat (first | (with_reducible exact Ext.refl _) | (with_reducible refine Ext.set_ ?_ _ ?_; focus (first | (simp; done) | (simp; omega) | (simp at *; omega))) | (with_reducible refine Ext.alloc ?_ _) | (with_reducible refine Ext.drew ?_) | (with_reducible refine Ext.drewN ?_ _) | (with_reducible refine Ext.trans ?_ (by assumption)))) (by first | (refine ⟨w5.heap.size, ⟨?_, ?_, ?_, ?_, trivial⟩, ?_⟩ <;> (go_simp; done)) | (refine ⟨w5.heap.size + 1, ⟨?_, ?_, ?_, ?_, trivial⟩, ?_⟩ <;> (go_simp; done)))).mono ?_); rintro e w6 ⟨rfl, hb6⟩; have hE6 : Ext W w6 := (by repeat (first | (with_reducible exact Ext.refl _) | (with_reducible refine Ext.set_ ?_ _ ?_; focus (first | (simp; done) | (simp; omega) | (simp at *; omega))) | (with_reducible refine Ext.alloc ?_ _) | (with_reducible refine Ext.drew ?_) | (with_reducible refine Ext.drewN ?_ _) | (with_reducible refine Ext.trans ?_ (by assumption)))); obtain ⟨e0, e1, e2, e3, e4, e5, e6, e7, _⟩ := (HB.out.ext hE6).cells; simp only [Nat.zero_add, Nat.reduceAdd] at e0 e1 e2 e3 e4 e5 e6 e7; have nq6 : w6.heap.size ≠ q := (by have := hE6.size; omega); have hbt6 := lt5.ext ((((Ext.refl w5).alloc _).alloc _).trans hb6); obtain ⟨t60, t61, t62, t63, _⟩ := hbt6.cells; simp only [Nat.zero_add, Nat.reduceAdd] at t60 t61 t62 t63; have f60 := hbt6.free 0; have f61 := hbt6.free 1; have f62 := hbt6.free 2; have f63 := hbt6.free 3)
        | (go_at_call 28; (with_reducible refine mark3 ?_); (refine (HEV.out _ _ (by repeat (first | (with_reducible exact Ext.refl _) | (with_reducible refine Ext.set_ ?_ _ ?_; focus (first | (simp; done) | (simp; omega) | (simp at *; omega))) | (with_reducible refine Ext.alloc ?_ _) | (with_reducible refine Ext.drew ?_) | (with_reducible refine Ext.drewN ?_ _) | (with_reducible refine Ext.trans ?_ (by assumption)))) (by first | (refine ⟨w5.heap.size, ⟨?_, ?_, ?_, ?_, trivial⟩, ?_⟩ <;> (go_simp; done)) | (refine ⟨w5.heap.size + 1, ⟨?_, ?_, ?_, ?_, trivial⟩, ?_⟩ <;> (go_simp; done)))).mono ?_); rintro e w6 ⟨rfl, hb6⟩; have hE6 : Ext W w6 := (by repeat (first | (with_reducible exact Ext.refl _) | (with_reducible refine Ext.set_ ?_ _ ?_; focus (first | (simp; done) | (simp; omega) | (simp at *; omega))) | (with_reducible refine Ext.alloc ?_ _) | (with_reducible refine Ext.drew ?_) | (with_reducible refine Ext.drewN ?_ _) | (with_reducible refine Ext.trans ?_ (by assumption)))); obtain ⟨e0, e1, e2, e3, e4, e5, e6, e7, _⟩ := (HB.out.ext hE6).cells; simp only [Nat.zero_add, Nat.reduceAdd] at e0 e1 e2 e3 e4 e5 e6 e7; have nq6 : w6.heap.size ≠ q := (by have := hE6.size; omega); obtain ⟨cu6, fu6, lu6⟩ := hb6.at_ w5.heap.size (by first | omega | (simp; done) | (simp; omega)); obtain ⟨cv6, fv6, lv6⟩ := hb6.at_ (w5.heap.size + 1) (by first | omega | (simp; done) | (simp; omega)); obtain ⟨cx6, fx6, lx6⟩ := hb6.at_ (w5.heap.size + 1 + 1) (by first | omega | (simp; done) | (simp; omega)))
        | (go_at_call 28; (refine (HEV.out _ _ (by repeat (first | (with_reducible exact Ext.refl _) | (with_reducible refine Ext.set_ ?_ _ ?_; focus (first | (simp; done) | (simp; omega) | (simp at *; omega))) | (with_reducible refine Ext.alloc ?_ _) | (with_reducible refine Ext.drew ?_) | (with_reducible refine Ext.drewN ?_ _) | (with_reducible refine Ext.trans ?_ (by assumption)))) (by first | (refine ⟨w5.heap.size, ⟨?_, ?_, ?_, ?_, trivial⟩, ?_⟩ <;> (go_simp; done)) | (refine ⟨w5.heap.size + 1, ⟨?_, ?_, ?_, ?_, trivial⟩, ?_⟩ <;> (go_simp; done)))).mono ?_); rintro e w6 ⟨rfl, hb6⟩; have hE6 : Ext W w6 := (by repeat (first | (with_reducible exact Ext.refl _) | (with_reducible refine Ext.set_ ?_ _ ?_; focus (first | (simp; done) | (simp; omega) | (simp at *; omega))) | (with_reducible refine Ext.alloc ?_ _) | (with_reducible refine Ext.drew ?_) | (with_reducible refine Ext.drewN ?_ _) | (with_reducible refine Ext.trans ?_ (by assumption)))); obtain ⟨e0, e1, e2, e3, e4, e5, e6, e7, _⟩ := (HB.out.ext hE6).cells; simp only [Nat.zero_add, Nat.reduceAdd] at e0 e1 e2 e3 e4 e5 e6 e7; have nq6 : w6.heap.size ≠ q := (by have := hE6.size; omega)))
    all_goals
      go_wp2_with fail
      go_meet
      have z5 := hE5.size
      first
        | exact ⟨_, rfl, rfl, BoxAt.new rfl rfl, hE6.alloc _⟩
        | exact ⟨_, rfl, rfl, hbt6.set4 _ _ _ _, hE6.set4 (Nat.le_refl _)⟩
        | (refine ⟨_, rfl, rfl, BoxAt.set4 _ _ _ _ ((BoxAt.new ?_ rfl).ext hb6), ?_⟩; (focus (simp; done)); (focus (refine hE6.set4 ?_; omega)))
        | (refine ⟨_, rfl, rfl, BoxAt.set4 _ _ _ _ (((BoxAt.new ?_ rfl).ext ((Ext.refl _).alloc _)).ext hb6), ?_⟩; (focus (simp; done)); (focus (refine hE6.set4 ?_; omega)))
        | (refine ⟨_, rfl, rfl, BoxAt.set4 _ _ _ _ ((((BoxAt.new rfl rfl).ext ((Ext.refl _).alloc _)).ext ((Ext.refl _).alloc _)).ext hb6), ?_⟩; (focus (refine hE6.set4 ?_; omega)))
  case rest =>
    obtain ⟨g2, rfl, rfl, hb2, hEc⟩ := hcut
    change BoxAt W q [.int .i64 8, .int .i64 0, .int .i64 0, .int .i64 0, .int .i64 0, .float .f64 0, .string ⟨#[]⟩, .slice (some ⟨g, 0, none⟩) 2 2] at hb
    have HBq := Lib.hid (hb.ext hEc); have HB2 := Lib.hid hb2; have HEc := Lib.hid hEc
    clear hb hb2 hEc hq HN3 HEV HOF
    have HEV : Hid (∀ u h1 g1, Ext W u → At u g1 0 [.int .i64 0, .int .i64 0, .float .f64 0, .string ⟨#[]⟩] → u.cell? ⟨h1, 0, none⟩ = some (.slice (some ⟨g1, 0, none⟩) 1 1) → Calls Try.prog 28 #[.agg #[.int .i64 8, .int .i64 0, .int .i64 0, .int .i64 0, .int .i64 0, .float .f64 0, .string ⟨#[]⟩, .slice (some ⟨g, 0, none⟩) 2 2], .slice (some ⟨h1, 0, none⟩) 1 1] u fun e w' => e = .returned (.tuple #[.agg #[.int .i64 0, .int .i64 0, .float .f64 0, .string ⟨#[]⟩], .int .i64 0]) ∧ Ext u w') := Lib.hid fun u h1 g1 he h2 h3 => by
      have h := Eval_of w22e _ u _ _ (Ex.In.ext he _ _ HIN.out) (RowsIn.one Val.null_ok h2 h3)
      rw [w22e_evaln] at h
      exact h
    have HN1 := Lib.hid (number_of 1)
    unfold Val.enc at HN1
    simp only [Val.number] at HN1
    have HL1 := Lib.hid (lit_of (Val.number 1))
    have HLF := Lib.hid (lit_of (Val.float 4607182418800017408))
    have HOF := Lib.hid (fun A n cap w => mkof_of 3 A n cap w)
    unfold exCells at HL1 HLF HOF
    simp only [Val.number] at HL1
    simp only [Val.float] at HLF
    have HTY : Hid (∀ (u v : World) (h : Nat), Ext (v.alloc (.cells (exsCells [exLit (Val.number 1), exLit (Val.float 4607182418800017408)] [.slice none 0 0, .slice none 0 0]).toArray 27)) u → h = v.heap.size → Calls Try.prog 36 #[.agg #[.int .i64 3, .int .i64 0, .int .i64 0, .int .i64 0, .int .i64 0, .float .f64 0, .string ⟨#[]⟩, .slice (some ⟨h, 0, none⟩) 2 2], .slice none 0 0] u fun e w' => e = .returned (.tuple #[.int .i64 0, .int .i64 50]) ∧ Ext u w') := Lib.hid fun u v h he hh => by
      subst hh
      have h := Type_of w22t _ u (.slice none 0 0) [] (Ex.In.ext he _ _ w22t_in) ⟨by simp, none, 0, rfl, fun h => absurd rfl h⟩
      rw [w22t_type] at h
      exact h
    have HREL : Hid (∀ u, Ext W u → Calls Try.prog 33 #[.agg #[.int .i64 8, .int .i64 0, .int .i64 0, .int .i64 0, .int .i64 0, .float .f64 0, .string ⟨#[]⟩, .slice (some ⟨g, 0, none⟩) 2 2]] u fun e w' => e = .returned (.int .u32 1) ∧ Ext u w') := Lib.hid fun u he => by
      have h := rels_of w22e _ u (Ex.In.ext he _ _ HIN.out)
      rw [w22e_rels] at h
      exact h
    have HFM : Hid (∀ u, Ext W u → Calls Try.prog 15 #[.agg #[.int .i64 8, .int .i64 0, .int .i64 0, .int .i64 0, .int .i64 0, .float .f64 0, .string ⟨#[]⟩, .slice (some ⟨g, 0, none⟩) 2 2]] u fun e w' => e = .returned (.bool true) ∧ Ext u w') := Lib.hid fun u he => by
      have h := formed_of w22e _ u (Ex.In.ext he _ _ HIN.out)
      rw [w22e_count] at h
      exact h
    go_wp2_with (first
      | (refine wpList_wish rfl fun K hK => wp_loadA (vs := [.int .i64 8, .int .i64 0, .int .i64 0, .int .i64 0, .int .i64 0, .float .f64 0, .string ⟨#[]⟩, .slice (some ⟨g, 0, none⟩) 2 2]) agg_ex (.tmp 1) rfl rfl HBq.out.cells (hK _ _ ?_))
      | (go_at_call 28; refine (HEV.out _ _ wc.heap.size (((HEc.out).alloc _).alloc _) ⟨by go_simp, by go_simp, by go_simp, by go_simp, trivial⟩ (by go_simp)).mono ?_; rintro e w6 ⟨rfl, hb6⟩; have hw6 : Ext wc w6 := (((Ext.refl wc).alloc _).alloc _).trans hb6; have HBq6 := Lib.hid (HBq.out.ext hw6); have HB26 := Lib.hid (HB2.out.ext hw6); have HE6 := Lib.hid (HEc.out.trans hw6); clear hb6 hw6 HBq HB2 HEc)
      | (go_at_call 53; refine (HN1.out _).mono ?_; rintro e w7 ⟨rfl, hb7⟩)
      | (go_at_call_of 52 (Value.agg #[.int .i64 2, .int .i64 1, .float .f64 0, .string ⟨#[]⟩]); refine (HL1.out _).mono ?_; rintro e w8 ⟨rfl, hb8⟩)
      | (go_at_call 52; refine (HLF.out _).mono ?_; rintro e w9 ⟨rfl, hb9⟩)
      | (go_at_call 34; refine (HOF.out _ _ _ _).mono ?_; rintro e w10 ⟨rfl, hb10⟩)
      | (go_at_call 36; refine (HTY.out _ _ _ hb10 rfl).mono ?_; rintro e w11 ⟨rfl, hb11⟩; have hx11 : Ext (w6.alloc (.cells #[.int .i64 0, .int .i64 0, .float .f64 0, .string ⟨#[]⟩] 24)) w11 := (by repeat (first | (with_reducible exact Ext.refl _) | (with_reducible refine Ext.set_ ?_ _ ?_; focus (first | (simp; done) | (simp; omega) | (simp at *; omega))) | (with_reducible refine Ext.alloc ?_ _) | (with_reducible refine Ext.drew ?_) | (with_reducible refine Ext.drewN ?_ _) | (with_reducible refine Ext.trans ?_ (by assumption)))); have hw11 := ((Ext.refl w6).alloc (.cells #[.int .i64 0, .int .i64 0, .float .f64 0, .string ⟨#[]⟩] 24)).trans hx11; obtain ⟨p0, p1, _⟩ := (HB26.out.ext hw11).cells; obtain ⟨p2, _⟩ := ((BoxAt.new (w := w6) (vs := [.int .i64 0, .int .i64 0, .float .f64 0, .string ⟨#[]⟩]) (t := 24) rfl rfl).ext hx11).cells; have HBq11 := Lib.hid (HBq6.out.ext hw11); have HE11 := Lib.hid (HE6.out.trans hw11); clear hb7 hb8 hb9 hb10 hb11 hx11 hw11)
      | (refine wpList_wish rfl fun K hK => wp_loadA (vs := [.int .i64 8, .int .i64 0, .int .i64 0, .int .i64 0, .int .i64 0, .float .f64 0, .string ⟨#[]⟩, .slice (some ⟨g, 0, none⟩) 2 2]) agg_ex (.tmp 1) rfl rfl HBq11.out.cells (hK _ _ ?_))
      | (refine wpList_wish rfl fun K hK => wp_loadA (vs := [.int .i64 8, .int .i64 0, .int .i64 0, .int .i64 0, .int .i64 0, .float .f64 0, .string ⟨#[]⟩, .slice (some ⟨g, 0, none⟩) 2 2]) agg_ex (.tmp 1) rfl rfl HBq12.out.cells (hK _ _ ?_))
      | (go_at_call 33; refine (HREL.out _ HE11.out).mono ?_; rintro e w12 ⟨rfl, hb12⟩; have HBq12 := Lib.hid (HBq11.out.ext hb12); have HE12 := Lib.hid (HE11.out.trans hb12); clear hb12)
      | (go_at_call 15; refine (HFM.out _ HE12.out).mono ?_; rintro e w13 ⟨rfl, hb13⟩; have HE13 := Lib.hid (HE12.out.trans hb13); clear hb13))
    go_ret
    exact ⟨rfl, HE.out.trans HE13.out⟩
end Go.Proofs.Ytlcdjaclahhdnaa
