/- The call of the law ExprSides: true, whatever the expressions and sets. Printed by wip/tools/gen_sideslaw.py. -/
import Derived.Test.YtlcdjaclahhdnaaSidesR
import Derived.Test.YtlcdjaclahhdnaaW22
namespace Go.Proofs.Ytlcdjaclahhdnaa
open Go.RowKit
set_option linter.unusedSimpArgs false
set_option linter.unusedVariables false
attribute [local irreducible] wpQuiet

theorem OwnX.boxed {w : World} {base : Nat} {v : Value} {l : List Ex} (h : OwnX w base v l) (hl : l ≠ []) : ∃ g cap vs, v = .slice (some ⟨g, 0, none⟩) l.length cap ∧ base ≤ g ∧ BoxAt w g vs ∧ l.length * 8 ≤ vs.length := by
  obtain ⟨ss, h1, h2, h3⟩ := h
  rcases h2.2 with ⟨rfl, h0⟩ | ⟨g, cap, cur, rfl, hb, hh, hc, hm, hx, hy⟩
  · exact absurd (List.eq_nil_of_length_eq_zero h0) hl
  · refine ⟨g, cap, cur.toList, rfl, hb, ⟨At.of_get fun j u hu => ?_, fun j => frozen_of_row _ _ _ _ _ hh, (Array.getElem?_eq_some_iff.1 hh).1⟩, ?_⟩
    · simp only [World.cell?, hh]
      simpa using hu
    · have h9 : cur.toList.length = cur.size := Array.length_toList
      rw [h9, hx]; exact Nat.mul_le_mul_right 8 hc
/-- 'append(l, n)', what turns told by blocks. -/
theorem wpList_addJ {w : World} {ops : Array Oper} {rest : List Oper} {o : Oper} {a : Act} {Q : Exit → Act → World → Prop} (hgd : o.guard = none) (s x : Operand)
    (ho : o.op = .call { callee := .builtin .append, args := #[s, x], argTypes := #[73, 73] })
    {base : Nat} {v : Value} {l : List Int} (hs : a.eval s = v) (hown : OwnI w base v l) (m : Int) {g : Nat} (hx : a.eval x = .slice (some ⟨g, 0, none⟩) 1 1) (hg : g = w.heap.size)
    (hl : l.length ≤ 1000000000) (hbase : base ≤ w.heap.size)
    (h : ∀ v' w', OwnI w' base v' (l ++ [m]) → ButS (fun k => v.ownBlock = some k) w w' → wpList Try.prog ops Q rest (a.put o.dst v') w') : wpList Try.prog ops Q (o :: rest) a (w.alloc (.cells #[.int .i64 m] 3)) := by
  subst hg
  obtain ⟨i, hi1, hi2⟩ := Option.map_eq_some_iff.1 info_int
  simp only [Prod.mk.injEq] at hi2
  refine wpList_append_own_at _ hgd s x 73 ho base 3 i _ 1 8 Try.underlying73 hi1 hi2.1 hi2.2.1 hi2.2.2 rfl (by omega) v l.length (l.map (Value.int .i64)) hs (owns_ext hown ((Ext.refl w).alloc _)) ⟨w.heap.size, 0, none⟩ 1 1 [.int .i64 m] hx rfl (fun j u hu => ?_) ?_ ?_ ?_ (by simp; omega) fun v' w' ho' hg' _ hat => ?_
  · rw [add_at]; exact (At.new rfl [Value.int .i64 m] 3 _ rfl).get j u hu
  · intro u hu; simp at hu; subst hu; rfl
  · unfold maxLen; omega
  · omega
  · have hgr : w.grownBy w' v.ownBlock := ⟨hg'.os, hg'.tape, hg'.output, Nat.le_trans (by simp) hg'.size, fun k hk hn => (hg'.block k (by simp; omega) hn).trans (heap_alloc_old w _ hk)⟩
    refine h v' w' ?_ (ButS.of_grown hgr fun k hk => hk)
    unfold OwnI
    rw [List.map_append, List.length_append]
    exact ho'
theorem OwnI.lt {w : World} {base : Nat} {v : Value} {l : List Int} (h : OwnI w base v l) {g : Nat} (hg : v.ownBlock = some g) : g < w.heap.size ∧ base ≤ g := owns_lt h hg
theorem OwnI.off {w : World} {base : Nat} {v : Value} {l : List Int} (h : OwnI w base v l) {g : Nat} (hg : g < base) : ¬ v.ownBlock = some g := fun e => by have := (h.lt e).2; omega
theorem OwnI.buts {M : Nat → Prop} {w w' : World} {base : Nat} {v : Value} {l : List Int} (h : OwnI w base v l) (hb : ButS M w w') (hm : ∀ k, M k → k < base) : OwnI w' base v l := by
  refine ⟨h.1, h.2.imp id ?_⟩
  rintro ⟨g, cap, cur, hv, hbg, hh, r⟩
  exact ⟨g, cap, cur, hv, hbg, by rw [hb.block g (Array.getElem?_eq_some_iff.1 hh).1 (fun hM => by have := hm g hM; omega)]; exact hh, r⟩
theorem exsIn_two {w : World} {e f : Ex} {se sf : Value} {A : Array Value} (he : Ex.In w e se) (hf : Ex.In w f sf) (hA : A = (exsCells [e, f] [se, sf]).toArray) : ExsIn (w.alloc (.cells A 27)) (.slice (some ⟨w.heap.size, 0, none⟩) 2 2) [e, f] := by
  refine ExsIn.new rfl rfl (by decide) (by decide) hA ?_
  intro i hi hj
  match i, hi with
  | 0, _ => exact he
  | 1, _ => exact hf

set_option maxRecDepth 100000 in
set_option maxHeartbeats 20000000 in
theorem sides_walk (e f : Ex) (se sf : Value) (m1 m2 : Nat) (w : World) (hine : Ex.In w e se) (hinf : Ex.In w f sf) (hm1 : m1 < 4294967296) (hm2 : m2 < 4294967296) :
    Calls Try.prog 9 #[.agg (e.cells se).toArray, .agg (f.cells sf).toArray, .int .u32 (m1 : Int), .int .u32 (m2 : Int)] w fun ev w' => ev = .returned (.bool true) ∧ Ext w w' := by
  obtain ⟨-, EA, ecap, rfl, -⟩ := hine.mk_inv.2.2.2.2
  obtain ⟨-, FA, fcap, rfl, -⟩ := hinf.mk_inv.2.2.2.2
  have HIE : Hid (∀ u, Ext w u → Ex.In u e (.slice EA e.kids.length ecap)) := Lib.hid fun u h => Ex.In.ext h _ _ hine
  have HIF : Hid (∀ u, Ext w u → Ex.In u f (.slice FA f.kids.length fcap)) := Lib.hid fun u h => Ex.In.ext h _ _ hinf
  have hb0 : BoxAt ((w.alloc (.cells (e.cells (.slice EA e.kids.length ecap)).toArray 27)).alloc (.cells (f.cells (.slice FA f.kids.length fcap)).toArray 27)) w.heap.size (e.cells (.slice EA e.kids.length ecap)) := (BoxAt.new rfl rfl).ext ((Ext.refl _).alloc _)
  have hb1 : BoxAt ((w.alloc (.cells (e.cells (.slice EA e.kids.length ecap)).toArray 27)).alloc (.cells (f.cells (.slice FA f.kids.length fcap)).toArray 27)) (w.heap.size + 1) (f.cells (.slice FA f.kids.length fcap)) := BoxAt.new (by simp) rfl
  have hE := ((Ext.refl w).alloc (.cells (e.cells (.slice EA e.kids.length ecap)).toArray 27)).alloc (.cells (f.cells (.slice FA f.kids.length fcap)).toArray 27)
  have hX : ExsIn (((w.alloc (.cells (e.cells (.slice EA e.kids.length ecap)).toArray 27)).alloc (.cells (f.cells (.slice FA f.kids.length fcap)).toArray 27)).alloc (.cells (exsCells [e, f] [.slice EA e.kids.length ecap, .slice FA f.kids.length fcap]).toArray 27)) (.slice (some ⟨w.heap.size + 1 + 1, 0, none⟩) 2 2) [e, f] := by
    have h := exsIn_two (HIE.out _ hE) (HIF.out _ hE) rfl
    simpa using h
  have HB0 := Lib.hid hb0; have HB1 := Lib.hid hb1; have HE := Lib.hid hE; have HX := Lib.hid hX
  have hgn : Hid (∀ u, RowsIn u (.slice none 0 0) []) := Lib.hid fun u => ⟨⟨none, 0, rfl, Nat.le_refl _, fun _ => rfl, fun h => absurd rfl h⟩, by simp, by simp⟩
  clear hine hinf hb0 hb1 hE hX
  simp only [exsCells, List.append_nil] at HX
  unfold Ex.cells exCells at *
  simp only [List.cons_append, List.nil_append] at HX
  go_enter Try.func9, Try.ntmps9
  go_upto_region 3 with (first
    | (refine wpList_wish rfl fun K hK => wp_loadA (vs := [.int .i64 e.kind, .int .i64 e.rel, .int .i64 e.col, .int .i64 e.const.kind, .int .i64 e.const.int, .float .f64 e.const.flt, .string e.const.text, (.slice EA e.kids.length ecap)]) agg_ex (.tmp 4) rfl rfl (HB0.out.cells) (hK _ _ ?_))
    | (refine wpList_wish rfl fun K hK => wp_loadA (vs := [.int .i64 f.kind, .int .i64 f.rel, .int .i64 f.col, .int .i64 f.const.kind, .int .i64 f.const.int, .float .f64 f.const.flt, .string f.const.text, (.slice FA f.kids.length fcap)]) agg_ex (.tmp 5) rfl rfl (HB1.out.cells) (hK _ _ ?_))
    | (go_at_call 14; refine (great_of [e, f] _ [] _ _ HX.out (hgn.out _)).mono ?_; rintro ev w2 ⟨hh, rfl⟩; obtain ⟨b1, rfl, hb1⟩ := hh.get; cases b1)
    | (go_at_call 13; refine (works22 _).mono ?_; rintro ev w3 ⟨rfl, hb3⟩))
  rotate_left
  · go_ret
    exact ⟨rfl, HE.out.trans (by repeat (first | (with_reducible exact Ext.refl _) | (with_reducible refine Ext.set_ ?_ _ ?_; focus (first | (simp; done) | (simp; omega) | (simp at *; omega))) | (with_reducible refine Ext.alloc ?_ _) | (with_reducible refine Ext.drew ?_) | (with_reducible refine Ext.drewN ?_ _) | (with_reducible refine Ext.trans ?_ (by assumption))))⟩
  have hsm := (hb1.out (by simp)).1.2 e (by simp)
  clear hb1 HX hgn
  refine name_world (fun u => Ext w u ∧ BoxAt u w.heap.size [.int .i64 e.kind, .int .i64 e.rel, .int .i64 e.col, .int .i64 e.const.kind, .int .i64 e.const.int, .float .f64 e.const.flt, .string e.const.text, (.slice EA e.kids.length ecap)] ∧ BoxAt u (w.heap.size + 1) [.int .i64 f.kind, .int .i64 f.rel, .int .i64 f.col, .int .i64 f.const.kind, .int .i64 f.const.int, .float .f64 f.const.flt, .string f.const.text, (.slice FA f.kids.length fcap)]) ⟨HE.out.alloc _, HB0.out.ext ((Ext.refl _).alloc _), HB1.out.ext ((Ext.refl _).alloc _)⟩ ?_
  clear HB0 HB1 HE
  rintro U ⟨hE, hb0, hb1⟩
  have HB0 := Lib.hid hb0; have HB1 := Lib.hid hb1; have HE := Lib.hid hE
  clear hb0 hb1 hE
  have hUs : w.heap.size + 1 < U.heap.size := HB1.out.lt
  have HS1 : Hid (∀ u, Ext w u → Calls Try.prog 37 #[.agg [.int .i64 e.kind, .int .i64 e.rel, .int .i64 e.col, .int .i64 e.const.kind, .int .i64 e.const.int, .float .f64 e.const.flt, .string e.const.text, (.slice EA e.kids.length ecap)].toArray, .int .u32 (m1 : Int), .int .u32 (m2 : Int)] u (SidesR u (sidesE e m1 m2))) := Lib.hid fun u h => sides_of e _ m1 m2 u (HIE.out u h) hsm hm1 hm2
  have HS2 : Hid (∀ u, Ext w u → Calls Try.prog 38 #[.agg [.int .i64 e.kind, .int .i64 e.rel, .int .i64 e.col, .int .i64 e.const.kind, .int .i64 e.const.int, .float .f64 e.const.flt, .string e.const.text, (.slice EA e.kids.length ecap)].toArray, .int .u32 (m1 : Int), .int .u32 (m2 : Int)] u (SidesR u (sidesE e m1 m2))) := Lib.hid fun u h => rsides_of e _ m1 m2 u (HIE.out u h) hm1 hm2
  have HCP : Hid (∀ u, Ext w u → Calls Try.prog 41 #[.agg [.int .i64 e.kind, .int .i64 e.rel, .int .i64 e.col, .int .i64 e.const.kind, .int .i64 e.const.int, .float .f64 e.const.flt, .string e.const.text, (.slice EA e.kids.length ecap)].toArray] u fun ev w' => ∃ CA ccap, ev = .returned (.agg [.int .i64 e.kind, .int .i64 e.rel, .int .i64 e.col, .int .i64 e.const.kind, .int .i64 e.const.int, .float .f64 e.const.flt, .string e.const.text, (.slice CA e.kids.length ccap)].toArray) ∧ OwnX w' u.heap.size (.slice CA e.kids.length ccap) e.kids ∧ Ext u w') := Lib.hid fun u h => (copy_of e _ u (HIE.out u h) hsm).mono (by
    rintro ev w' ⟨s', rfl, ho, he⟩
    obtain ⟨A, c, rfl⟩ := ho.form'
    exact ⟨A, c, rfl, ho, he⟩)
  have HKL : Hid (e.kids.length ≤ 500) := Lib.hid ((Ex.small_iff 500 e).1 hsm).1
  clear hsm hm1 hm2
  generalize sidesE e m1 m2 = r at *
  obtain ⟨p, q, ok⟩ := r
  go_upto_region 4 with (first
    | (refine wpList_wish rfl fun K hK => wp_loadA (vs := [.int .i64 e.kind, .int .i64 e.rel, .int .i64 e.col, .int .i64 e.const.kind, .int .i64 e.const.int, .float .f64 e.const.flt, .string e.const.text, (.slice EA e.kids.length ecap)]) agg_ex (.tmp 4) rfl rfl (HB0.out.cells) (hK _ _ ?_))
    | (go_at_call 37; refine (HS1.out _ HE.out).mono ?_; rintro ev w1 ⟨s, t, rfl, hs, ht, he⟩; obtain ⟨-, A1, c1, rfl, -⟩ := hs.mk_inv.2.2.2.2; obtain ⟨-, A2, c2, rfl, -⟩ := ht.mk_inv.2.2.2.2; have HI1 := Lib.hid hs; have HI2 := Lib.hid ht; have HE1 := Lib.hid he; clear hs ht he)
    | (refine wpList_storeA (vs' := [.int .i64 p.kind, .int .i64 p.rel, .int .i64 p.col, .int .i64 p.const.kind, .int .i64 p.const.int, .float .f64 p.const.flt, .string p.const.text, (.slice A1 p.kids.length c1)]) ex_one ((BoxAt.new (w := w1) (vs := zeroE) (t := 27) rfl rfl).ext ((Ext.refl _).alloc _)) size_ex rfl rfl (.tmp 9) _ rfl rfl rfl ?_; intro w2 hq1 hq2; have HX1 := Lib.hid hq1; have HX2 := Lib.hid (But.box hq2 (by omega) (BoxAt.new (w := w1.alloc (.cells zeroE.toArray 27)) (g := w1.heap.size + 1) (vs := zeroE) (t := 27) (by simp) rfl)); have HE2 := Lib.hid (But.to_ext (((Ext.refl w1).alloc (.cells zeroE.toArray 27)).alloc (.cells zeroE.toArray 27)) hq2 (Nat.le_refl _)); clear hq1 hq2)
    | (refine wpList_storeA (vs' := [.int .i64 q.kind, .int .i64 q.rel, .int .i64 q.col, .int .i64 q.const.kind, .int .i64 q.const.int, .float .f64 q.const.flt, .string q.const.text, (.slice A2 q.kids.length c2)]) ex_one HX2.out size_ex rfl rfl (.tmp 10) _ rfl rfl rfl ?_; intro w3 hq1 hq2; have HY2 := Lib.hid hq1; have HY1 := Lib.hid (But.box hq2 (by omega) HX1.out); have HE3 := Lib.hid (But.to_ext HE2.out hq2 (by omega)); clear hq1 hq2))
  refine name_world (fun u => Ext w u ∧ BoxAt u w.heap.size [.int .i64 e.kind, .int .i64 e.rel, .int .i64 e.col, .int .i64 e.const.kind, .int .i64 e.const.int, .float .f64 e.const.flt, .string e.const.text, (.slice EA e.kids.length ecap)] ∧ BoxAt u (w.heap.size + 1) [.int .i64 f.kind, .int .i64 f.rel, .int .i64 f.col, .int .i64 f.const.kind, .int .i64 f.const.int, .float .f64 f.const.flt, .string f.const.text, (.slice FA f.kids.length fcap)] ∧ BoxAt u w1.heap.size [.int .i64 p.kind, .int .i64 p.rel, .int .i64 p.col, .int .i64 p.const.kind, .int .i64 p.const.int, .float .f64 p.const.flt, .string p.const.text, (.slice A1 p.kids.length c1)] ∧ BoxAt u (w1.heap.size + 1) [.int .i64 q.kind, .int .i64 q.rel, .int .i64 q.col, .int .i64 q.const.kind, .int .i64 q.const.int, .float .f64 q.const.flt, .string q.const.text, (.slice A2 q.kids.length c2)] ∧ Ex.In u p (.slice A1 p.kids.length c1) ∧ Ex.In u q (.slice A2 q.kids.length c2)) ⟨HE.out.trans (HE1.out.trans HE3.out), HB0.out.ext (HE1.out.trans HE3.out), HB1.out.ext (HE1.out.trans HE3.out), HY1.out, HY2.out, Ex.In.ext HE3.out _ _ HI1.out, Ex.In.ext HE3.out _ _ HI2.out⟩ ?_
  have hs1 := HE1.out.size
  clear HB0 HB1 HE HE1 HE2 HE3 HX1 HX2 HY1 HY2 HI1 HI2 HS1
  generalize w1.heap.size = g9 at *
  clear w1 w2 w3
  rintro U4 ⟨hE, hb0, hb1, hx1, hx2, hi1, hi2⟩
  have HB0 := Lib.hid hb0; have HB1 := Lib.hid hb1; have HE := Lib.hid hE; have HX1 := Lib.hid hx1; have HX2 := Lib.hid hx2; have HI1 := Lib.hid hi1; have HI2 := Lib.hid hi2
  have hg9 : g9 + 1 < U4.heap.size := HX2.out.lt
  clear hb0 hb1 hE hx1 hx2 hi1 hi2
  go_upto_region 5 with (first
    | (refine wpList_wish rfl fun K hK => wp_loadA (vs := [.int .i64 e.kind, .int .i64 e.rel, .int .i64 e.col, .int .i64 e.const.kind, .int .i64 e.const.int, .float .f64 e.const.flt, .string e.const.text, (.slice EA e.kids.length ecap)]) agg_ex (.tmp 4) rfl rfl (HB0.out.cells) (hK _ _ ?_))
    | (go_at_call 38; refine (HS2.out _ HE.out).mono ?_; rintro ev w1 ⟨s, t, rfl, hs, ht, he⟩; obtain ⟨-, B1, d1, rfl, -⟩ := hs.mk_inv.2.2.2.2; obtain ⟨-, B2, d2, rfl, -⟩ := ht.mk_inv.2.2.2.2; have HJ1 := Lib.hid hs; have HJ2 := Lib.hid ht; have HE1 := Lib.hid he; clear hs ht he)
    | (refine wpList_storeA (vs' := [.int .i64 p.kind, .int .i64 p.rel, .int .i64 p.col, .int .i64 p.const.kind, .int .i64 p.const.int, .float .f64 p.const.flt, .string p.const.text, (.slice B1 p.kids.length d1)]) ex_one ((BoxAt.new (w := w1) (vs := zeroE) (t := 27) rfl rfl).ext ((Ext.refl _).alloc _)) size_ex rfl rfl (.tmp 12) _ rfl rfl rfl ?_; intro w2 hq1 hq2; have HZ1 := Lib.hid hq1; have HZ2 := Lib.hid (But.box hq2 (by omega) (BoxAt.new (w := w1.alloc (.cells zeroE.toArray 27)) (g := w1.heap.size + 1) (vs := zeroE) (t := 27) (by simp) rfl)); have HE2 := Lib.hid (But.to_ext (((Ext.refl w1).alloc (.cells zeroE.toArray 27)).alloc (.cells zeroE.toArray 27)) hq2 (Nat.le_refl _)); clear hq1 hq2)
    | (refine wpList_storeA (vs' := [.int .i64 q.kind, .int .i64 q.rel, .int .i64 q.col, .int .i64 q.const.kind, .int .i64 q.const.int, .float .f64 q.const.flt, .string q.const.text, (.slice B2 q.kids.length d2)]) ex_one HZ2.out size_ex rfl rfl (.tmp 13) _ rfl rfl rfl ?_; intro w3 hq1 hq2; have HY2 := Lib.hid hq1; have HY1 := Lib.hid (But.box hq2 (by omega) HZ1.out); have HE3 := Lib.hid (But.to_ext HE2.out hq2 (by omega)); clear hq1 hq2))
  refine name_world (fun u => Ext w u ∧ BoxAt u w.heap.size [.int .i64 e.kind, .int .i64 e.rel, .int .i64 e.col, .int .i64 e.const.kind, .int .i64 e.const.int, .float .f64 e.const.flt, .string e.const.text, (.slice EA e.kids.length ecap)] ∧ BoxAt u (w.heap.size + 1) [.int .i64 f.kind, .int .i64 f.rel, .int .i64 f.col, .int .i64 f.const.kind, .int .i64 f.const.int, .float .f64 f.const.flt, .string f.const.text, (.slice FA f.kids.length fcap)] ∧ BoxAt u g9 [.int .i64 p.kind, .int .i64 p.rel, .int .i64 p.col, .int .i64 p.const.kind, .int .i64 p.const.int, .float .f64 p.const.flt, .string p.const.text, (.slice A1 p.kids.length c1)] ∧ BoxAt u (g9 + 1) [.int .i64 q.kind, .int .i64 q.rel, .int .i64 q.col, .int .i64 q.const.kind, .int .i64 q.const.int, .float .f64 q.const.flt, .string q.const.text, (.slice A2 q.kids.length c2)] ∧ BoxAt u w1.heap.size [.int .i64 p.kind, .int .i64 p.rel, .int .i64 p.col, .int .i64 p.const.kind, .int .i64 p.const.int, .float .f64 p.const.flt, .string p.const.text, (.slice B1 p.kids.length d1)] ∧ BoxAt u (w1.heap.size + 1) [.int .i64 q.kind, .int .i64 q.rel, .int .i64 q.col, .int .i64 q.const.kind, .int .i64 q.const.int, .float .f64 q.const.flt, .string q.const.text, (.slice B2 q.kids.length d2)] ∧ (Ex.In u p (.slice A1 p.kids.length c1) ∧ Ex.In u q (.slice A2 q.kids.length c2)) ∧ Ex.In u p (.slice B1 p.kids.length d1) ∧ Ex.In u q (.slice B2 q.kids.length d2)) ⟨HE.out.trans (HE1.out.trans HE3.out), HB0.out.ext (HE1.out.trans HE3.out), HB1.out.ext (HE1.out.trans HE3.out), HX1.out.ext (HE1.out.trans HE3.out), HX2.out.ext (HE1.out.trans HE3.out), HY1.out, HY2.out, ⟨Ex.In.ext (HE1.out.trans HE3.out) _ _ HI1.out, Ex.In.ext (HE1.out.trans HE3.out) _ _ HI2.out⟩, Ex.In.ext HE3.out _ _ HJ1.out, Ex.In.ext HE3.out _ _ HJ2.out⟩ ?_
  clear HB0 HB1 HE HX1 HX2 HI1 HI2 HE1 HE2 HE3 HZ1 HZ2 HY1 HY2 HJ1 HJ2 HS2
  generalize w1.heap.size = g12 at *
  clear w1 w2 w3
  rintro U5 ⟨hE, hb0, hb1, hx1, hx2, hy1, hy2, ⟨hi1, hi2⟩, hj1, hj2⟩
  have HE := Lib.hid hE
  have HL4 : Hid (∀ u, Ext U5 u → At u w.heap.size 0 [.int .i64 e.kind, .int .i64 e.rel, .int .i64 e.col, .int .i64 e.const.kind, .int .i64 e.const.int, .float .f64 e.const.flt, .string e.const.text, (.slice EA e.kids.length ecap)]) := Lib.hid fun u h => (hb0.ext h).cells
  have HL5 : Hid (∀ u, Ext U5 u → At u (w.heap.size + 1) 0 [.int .i64 f.kind, .int .i64 f.rel, .int .i64 f.col, .int .i64 f.const.kind, .int .i64 f.const.int, .float .f64 f.const.flt, .string f.const.text, (.slice FA f.kids.length fcap)]) := Lib.hid fun u h => (hb1.ext h).cells
  have HL9 : Hid (∀ u, Ext U5 u → At u g9 0 [.int .i64 p.kind, .int .i64 p.rel, .int .i64 p.col, .int .i64 p.const.kind, .int .i64 p.const.int, .float .f64 p.const.flt, .string p.const.text, (.slice A1 p.kids.length c1)]) := Lib.hid fun u h => (hx1.ext h).cells
  have HL10 : Hid (∀ u, Ext U5 u → At u (g9 + 1) 0 [.int .i64 q.kind, .int .i64 q.rel, .int .i64 q.col, .int .i64 q.const.kind, .int .i64 q.const.int, .float .f64 q.const.flt, .string q.const.text, (.slice A2 q.kids.length c2)]) := Lib.hid fun u h => (hx2.ext h).cells
  have HL12 : Hid (∀ u, Ext U5 u → At u g12 0 [.int .i64 p.kind, .int .i64 p.rel, .int .i64 p.col, .int .i64 p.const.kind, .int .i64 p.const.int, .float .f64 p.const.flt, .string p.const.text, (.slice B1 p.kids.length d1)]) := Lib.hid fun u h => (hy1.ext h).cells
  have HL13 : Hid (∀ u, Ext U5 u → At u (g12 + 1) 0 [.int .i64 q.kind, .int .i64 q.rel, .int .i64 q.col, .int .i64 q.const.kind, .int .i64 q.const.int, .float .f64 q.const.flt, .string q.const.text, (.slice B2 q.kids.length d2)]) := Lib.hid fun u h => (hy2.ext h).cells
  have HSP : Hid (∀ u, Ext U5 u → Calls Try.prog 39 #[.agg [.int .i64 p.kind, .int .i64 p.rel, .int .i64 p.col, .int .i64 p.const.kind, .int .i64 p.const.int, .float .f64 p.const.flt, .string p.const.text, (.slice A1 p.kids.length c1)].toArray, .agg [.int .i64 p.kind, .int .i64 p.rel, .int .i64 p.col, .int .i64 p.const.kind, .int .i64 p.const.int, .float .f64 p.const.flt, .string p.const.text, (.slice B1 p.kids.length d1)].toArray] u fun ev w' => ev = .returned (.bool true) ∧ Ext u w') := Lib.hid fun u h => by have h1 := rsame_of p p _ _ u (Ex.In.ext h _ _ hi1) (Ex.In.ext h _ _ hj1); rw [Ex.same_self] at h1; exact h1
  have HSQ : Hid (∀ u, Ext U5 u → Calls Try.prog 39 #[.agg [.int .i64 q.kind, .int .i64 q.rel, .int .i64 q.col, .int .i64 q.const.kind, .int .i64 q.const.int, .float .f64 q.const.flt, .string q.const.text, (.slice A2 q.kids.length c2)].toArray, .agg [.int .i64 q.kind, .int .i64 q.rel, .int .i64 q.col, .int .i64 q.const.kind, .int .i64 q.const.int, .float .f64 q.const.flt, .string q.const.text, (.slice B2 q.kids.length d2)].toArray] u fun ev w' => ev = .returned (.bool true) ∧ Ext u w') := Lib.hid fun u h => by have h1 := rsame_of q q _ _ u (Ex.In.ext h _ _ hi2) (Ex.In.ext h _ _ hj2); rw [Ex.same_self] at h1; exact h1
  have HSF : Hid (∀ u, Ext U5 u → Calls Try.prog 39 #[.agg [.int .i64 e.kind, .int .i64 e.rel, .int .i64 e.col, .int .i64 e.const.kind, .int .i64 e.const.int, .float .f64 e.const.flt, .string e.const.text, (.slice EA e.kids.length ecap)].toArray, .agg [.int .i64 f.kind, .int .i64 f.rel, .int .i64 f.col, .int .i64 f.const.kind, .int .i64 f.const.int, .float .f64 f.const.flt, .string f.const.text, (.slice FA f.kids.length fcap)].toArray] u fun ev w' => ev = .returned (.bool (e.same f)) ∧ Ext u w') := Lib.hid fun u h => rsame_of e f _ _ u (HIE.out u (hE.trans h)) (HIF.out u (hE.trans h))
  have HTF : Hid (∀ u, Ext U5 u → Calls Try.prog 19 #[.agg [.int .i64 e.kind, .int .i64 e.rel, .int .i64 e.col, .int .i64 e.const.kind, .int .i64 e.const.int, .float .f64 e.const.flt, .string e.const.text, (.slice EA e.kids.length ecap)].toArray, .agg [.int .i64 f.kind, .int .i64 f.rel, .int .i64 f.col, .int .i64 f.const.kind, .int .i64 f.const.int, .float .f64 f.const.flt, .string f.const.text, (.slice FA f.kids.length fcap)].toArray] u fun ev w' => ev = .returned (.bool (e.same f)) ∧ Ext u w') := Lib.hid fun u h => exsame_of e f _ _ u (HIE.out u (hE.trans h)) (HIF.out u (hE.trans h))
  have HTE : Hid (∀ u, Ext U5 u → Calls Try.prog 19 #[.agg [.int .i64 e.kind, .int .i64 e.rel, .int .i64 e.col, .int .i64 e.const.kind, .int .i64 e.const.int, .float .f64 e.const.flt, .string e.const.text, (.slice EA e.kids.length ecap)].toArray, .agg [.int .i64 e.kind, .int .i64 e.rel, .int .i64 e.col, .int .i64 e.const.kind, .int .i64 e.const.int, .float .f64 e.const.flt, .string e.const.text, (.slice EA e.kids.length ecap)].toArray] u fun ev w' => ev = .returned (.bool true) ∧ Ext u w') := Lib.hid fun u h => by have h1 := exsame_of e e _ _ u (HIE.out u (hE.trans h)) (HIE.out u (hE.trans h)); rw [Ex.same_self] at h1; exact h1
  have HRE : Hid (∀ u, Ext U5 u → Calls Try.prog 33 #[.agg [.int .i64 e.kind, .int .i64 e.rel, .int .i64 e.col, .int .i64 e.const.kind, .int .i64 e.const.int, .float .f64 e.const.flt, .string e.const.text, (.slice EA e.kids.length ecap)].toArray] u fun ev w' => ev = .returned (.int .u32 (e.rels : Int)) ∧ Ext u w') := Lib.hid fun u h => rels_of e _ u (HIE.out u (hE.trans h))
  have HRR : Hid (∀ u, Ext U5 u → Calls Try.prog 40 #[.agg [.int .i64 e.kind, .int .i64 e.rel, .int .i64 e.col, .int .i64 e.const.kind, .int .i64 e.const.int, .float .f64 e.const.flt, .string e.const.text, (.slice EA e.kids.length ecap)].toArray] u fun ev w' => ev = .returned (.int .u32 (e.rels : Int)) ∧ Ext u w') := Lib.hid fun u h => rrels_of e _ u (HIE.out u (hE.trans h))
  have HBE : Hid (∀ u, Ext U5 u → BoxAt u w.heap.size [.int .i64 e.kind, .int .i64 e.rel, .int .i64 e.col, .int .i64 e.const.kind, .int .i64 e.const.int, .float .f64 e.const.flt, .string e.const.text, (.slice EA e.kids.length ecap)]) := Lib.hid fun u h => hb0.ext h
  have hU5 : w.heap.size < U5.heap.size := hb0.lt
  clear hE hb0 hb1 hx1 hx2 hy1 hy2 hi1 hi2 hj1 hj2
  generalize e.same f = z at *
  generalize e.rels = y at *
  go_wp2_with fail
  refine wp_region_ext (by kernel_rfl) (by kernel_rfl) ?_; (repeat (first | (refine quiet_loadA2 (vs := [.int .i64 p.kind, .int .i64 p.rel, .int .i64 p.col, .int .i64 p.const.kind, .int .i64 p.const.int, .float .f64 p.const.flt, .string p.const.text, (.slice A1 p.kids.length c1)]) (.tmp 9) rfl rfl agg_ex rfl (fun w' hw => HL9.out w' hw) ?_) | (refine quiet_loadA2 (vs := [.int .i64 p.kind, .int .i64 p.rel, .int .i64 p.col, .int .i64 p.const.kind, .int .i64 p.const.int, .float .f64 p.const.flt, .string p.const.text, (.slice B1 p.kids.length d1)]) (.tmp 12) rfl rfl agg_ex rfl (fun w' hw => HL12.out w' hw) ?_) | (refine quiet_loadA2 (vs := [.int .i64 q.kind, .int .i64 q.rel, .int .i64 q.col, .int .i64 q.const.kind, .int .i64 q.const.int, .float .f64 q.const.flt, .string q.const.text, (.slice A2 q.kids.length c2)]) (.tmp 10) rfl rfl agg_ex rfl (fun w' hw => HL10.out w' hw) ?_) | (refine quiet_loadA2 (vs := [.int .i64 q.kind, .int .i64 q.rel, .int .i64 q.col, .int .i64 q.const.kind, .int .i64 q.const.int, .float .f64 q.const.flt, .string q.const.text, (.slice B2 q.kids.length d2)]) (.tmp 13) rfl rfl agg_ex rfl (fun w' hw => HL13.out w' hw) ?_) | (refine quiet_loadA2 (vs := [.int .i64 e.kind, .int .i64 e.rel, .int .i64 e.col, .int .i64 e.const.kind, .int .i64 e.const.int, .float .f64 e.const.flt, .string e.const.text, (.slice EA e.kids.length ecap)]) (.tmp 4) rfl rfl agg_ex rfl (fun w' hw => HL4.out w' hw) ?_) | (refine quiet_loadA2 (vs := [.int .i64 f.kind, .int .i64 f.rel, .int .i64 f.col, .int .i64 f.const.kind, .int .i64 f.const.int, .float .f64 f.const.flt, .string f.const.text, (.slice FA f.kids.length fcap)]) (.tmp 5) rfl rfl agg_ex rfl (fun w' hw => HL5.out w' hw) ?_) | (refine wpQuiet_step (fun K hK => ?_); go_simp; first | (refine hK _ ?_; clear hK K) | (refine ⟨_, fun w hw => rfl, hK _ ?_⟩; clear hK K) | (apply Exists.intro; refine ⟨fun w hw => ?_, hK _ ?_⟩; (focus first | (go_at_call 39; with_reducible exact (HSP.out _ hw).mono fun _ _ ⟨h1, h2⟩ => ⟨h1, hw.trans h2⟩) | (go_at_call 39; with_reducible exact (HSQ.out _ hw).mono fun _ _ ⟨h1, h2⟩ => ⟨h1, hw.trans h2⟩) | (go_at_call 39; with_reducible exact (HSF.out _ hw).mono fun _ _ ⟨h1, h2⟩ => ⟨h1, hw.trans h2⟩) | (go_at_call 19; with_reducible exact (HTF.out _ hw).mono fun _ _ ⟨h1, h2⟩ => ⟨h1, hw.trans h2⟩) | (go_at_call 19; with_reducible exact (HTE.out _ hw).mono fun _ _ ⟨h1, h2⟩ => ⟨h1, hw.trans h2⟩) | (go_at_call 33; with_reducible exact (HRE.out _ hw).mono fun _ _ ⟨h1, h2⟩ => ⟨h1, hw.trans h2⟩) | (go_at_call 40; with_reducible exact (HRR.out _ hw).mono fun _ _ ⟨h1, h2⟩ => ⟨h1, hw.trans h2⟩)); clear hK K)))); refine wpQuiet_nil ?_
  intro U6 hE6
  go_upto_region 10 with (first
    | (refine wpList_wish rfl fun K hK => wp_loadA (vs := [.int .i64 e.kind, .int .i64 e.rel, .int .i64 e.col, .int .i64 e.const.kind, .int .i64 e.const.int, .float .f64 e.const.flt, .string e.const.text, (.slice EA e.kids.length ecap)]) agg_ex (.tmp 4) rfl rfl (HL4.out _ hE6) (hK _ _ ?_))
    | (go_at_call 41; refine (HCP.out _ (HE.out.trans hE6)).mono ?_; rintro ev w7 ⟨CA, ccap, rfl, ho, he⟩; have HO := Lib.hid ho; have HE7 := Lib.hid (hE6.trans he); clear ho he)
    | (refine wpList_wish rfl fun K hK => wp_loadA (vs := [.int .i64 e.kind, .int .i64 e.rel, .int .i64 e.col, .int .i64 e.const.kind, .int .i64 e.const.int, .float .f64 e.const.flt, .string e.const.text, (.slice CA e.kids.length ccap)]) agg_ex (.tmp 15) rfl rfl ((BoxAt.new (w := w7) (vs := [.int .i64 e.kind, .int .i64 e.rel, .int .i64 e.col, .int .i64 e.const.kind, .int .i64 e.const.int, .float .f64 e.const.flt, .string e.const.text, (.slice CA e.kids.length ccap)]) (t := 27) rfl rfl).cells) (hK _ _ ?_))
    | (refine wpList_wish rfl fun K hK => wp_loadA (vs := [.int .i64 e.kind, .int .i64 e.rel, .int .i64 e.col, .int .i64 e.const.kind, .int .i64 e.const.int, .float .f64 e.const.flt, .string e.const.text, (.slice EA e.kids.length ecap)]) agg_ex (.tmp 4) rfl rfl (HL4.out _ (HE7.out.trans ((Ext.refl _).alloc _))) (hK _ _ ?_))
    | (go_at_call 39; refine (rsame_of e e (.slice CA e.kids.length ccap) (.slice EA e.kids.length ecap) _ ?_ ?_).mono ?_; (focus exact Ex.In.ext ((Ext.refl _).alloc _) _ _ (by obtain ⟨q1, q2, q3, q4, -⟩ := (HIE.out _ (Ext.refl _)).mk_inv; have h9 := (HO.out.ex q1 q2 q3 q4).of_from; cases e; exact h9)); (focus exact HIE.out _ (HE.out.trans (HE7.out.trans ((Ext.refl _).alloc _)))); rintro ev w8 ⟨rfl, hb8⟩; rw [Ex.same_self]))
  refine name_world (fun u => Ext w u ∧ BoxAt u w.heap.size [.int .i64 e.kind, .int .i64 e.rel, .int .i64 e.col, .int .i64 e.const.kind, .int .i64 e.const.int, .float .f64 e.const.flt, .string e.const.text, (.slice EA e.kids.length ecap)] ∧ BoxAt u w7.heap.size [.int .i64 e.kind, .int .i64 e.rel, .int .i64 e.col, .int .i64 e.const.kind, .int .i64 e.const.int, .float .f64 e.const.flt, .string e.const.text, (.slice CA e.kids.length ccap)] ∧ OwnX u U6.heap.size (.slice CA e.kids.length ccap) e.kids) ⟨HE.out.trans (HE7.out.trans (((Ext.refl _).alloc _).trans hb8)), HBE.out _ (HE7.out.trans (((Ext.refl _).alloc _).trans hb8)), (BoxAt.new rfl rfl).ext hb8, HO.out.buts (M := fun _ => False) (ButS.of_ext (((Ext.refl _).alloc _).trans hb8)) (fun _ h => h.elim)⟩ ?_
  have hs6 := hE6.size
  have hs7 : ∀ g, (Value.slice CA e.kids.length ccap).ownBlock = some g → g < w7.heap.size ∧ U6.heap.size ≤ g := fun g hg => HO.out.lt' hg
  clear HL4 HL5 HL9 HL10 HL12 HL13 HSP HSQ HSF HTF HTE HRE HRR HBE hb8 HE HE7 HO HCP HIF
  generalize w7.heap.size = g15 at *
  generalize U6.heap.size = b15 at *
  clear hE6 w7 w8
  rintro W ⟨hE, hb0, hb15, ho⟩
  have hgW : g15 < W.heap.size := hb15.lt
  have hb0W : w.heap.size < W.heap.size := hb0.lt
  obtain ⟨gk, hgk1, hgk2, hgk3⟩ : ∃ gk, w.heap.size < gk ∧ gk ≠ g15 ∧ (e.kids ≠ [] → CA = some ⟨gk, 0, none⟩ ∧ gk < W.heap.size ∧ ∃ vs, BoxAt W gk vs ∧ e.kids.length * 8 ≤ vs.length) := by
    by_cases hl : e.kids = []
    · exact ⟨W.heap.size, hb0W, by omega, fun h => absurd hl h⟩
    · obtain ⟨g, cap, vs, h1, h2, h3, h4⟩ := ho.boxed hl
      simp only [Value.slice.injEq] at h1
      obtain ⟨rfl, -, -⟩ := h1
      have h5 := hs7 g rfl
      exact ⟨g, by omega, by omega, fun _ => ⟨rfl, h3.lt, vs, h3, h4⟩⟩
  have HGK := Lib.hid hgk3
  have HB0 := Lib.hid hb0; have HB15 := Lib.hid hb15; have HE := Lib.hid hE
  clear hgk3 hb0 hb15 hE ho hs7
  have d7 := HB15.out.cells.get 7 _ rfl; have c7 := HB0.out.cells.get 7 _ rfl
  simp only [Nat.zero_add] at d7 c7
  go_upto_block 0 with fail
  clear d7 c7
  have hown : OwnI (W.alloc (.cells #[] 3)) W.heap.size (.slice (some ⟨W.heap.size, 0, none⟩) 0 0) [] := ⟨by simp, .inr ⟨W.heap.size, 0, #[], rfl, Nat.le_refl _, heap_alloc_new _ _, by simp, by simp, by simp, by simp⟩⟩
  refine name_world (fun u => u.heap.size = W.heap.size + 1 ∧ Ext W u ∧ OwnI u W.heap.size (.slice (some ⟨W.heap.size, 0, none⟩) 0 0) []) ⟨by simp, (Ext.refl _).alloc _, hown⟩ ?_
  clear hown
  rintro V ⟨hVs, hWV, hown⟩
  have HGV : Hid (e.kids ≠ [] → CA = some ⟨gk, 0, none⟩ ∧ gk < W.heap.size ∧ ∃ vs, BoxAt V gk vs ∧ e.kids.length * 8 ≤ vs.length) := Lib.hid fun h => by
    obtain ⟨h1, h2, vs, h3, h4⟩ := HGK.out h
    exact ⟨h1, h2, vs, h3.ext hWV, h4⟩
  have HV0 := Lib.hid (HB0.out.ext hWV); have HV15 := Lib.hid (HB15.out.ext hWV); have HVE := Lib.hid (HE.out.trans hWV); have HVO := Lib.hid hown
  clear HGK HB0 HB15 HE hWV hown
  generalize W.heap.size = kb at *
  clear W
  go_wp2_with fail
  go_loopw [16, 87] (fun x y wr => ∃ i : Nat, y = .int .i64 (i : Int) ∧ i ≤ e.kids.length ∧ OwnI wr kb x ((e.kids.take i).map Ex.kind) ∧ ButS (fun k => k = gk ∨ k = kb) V wr ∧ (e.kids ≠ [] → ∃ vs, BoxAt wr gk vs ∧ e.kids.length * 8 ≤ vs.length)) (fun _ y _ => e.kids.length - (intOf y).toNat)
  case atStart => exact ⟨0, rfl, by omega, HVO.out, ButS.refl _ _, fun h => (HGV.out h).2.2⟩
  case round =>
    rename_i hrel
    obtain ⟨i, rfl, hi, hown, hbs, hbx⟩ := hrel
    have hKL := HKL.out
    have hEw : Ext w wr := ButS.to_ext HVE.out hbs (fun k hk => by omega)
    have HX0 := Lib.hid (ButS.box hbs (by omega) HV0.out); have HX15 := Lib.hid (ButS.box hbs (by omega) HV15.out)
    have hsz := hbs.size
    by_cases hlt : i < e.kids.length
    · have hne : e.kids ≠ [] := fun h => by rw [h] at hlt; simp at hlt
      obtain ⟨rfl, hgkb, -⟩ := HGV.out hne
      obtain ⟨vs, hvs, hvl⟩ := hbx hne
      have hlt' : (i : Int) < (e.kids.length : Int) := by omega
      have hI : (i : Int) ≤ 1000 := by omega
      obtain ⟨g, o, s', rfl, -, hat, -, hg⟩ := (HIE.out wr hEw).mk_inv.2.2.2.2.get i hlt
      have c7 := HX0.out.cells.get 7 _ rfl
      simp only [Nat.zero_add] at c7
      have h0 : wr.cell? ⟨g, o + i * 8, none⟩ = some (.int .i64 e.kids[i].kind) := by have h := hat.get 0 _ rfl; simpa using h
      have HTK := Lib.hid (List.take_succ_eq_append_getElem hlt)
      have HOW := Lib.hid hown; have HBS := Lib.hid hbs; have HVS := Lib.hid hvs; have HVL := Lib.hid hvl
      clear hown hbs hbx hvs hvl hat hEw
      go_wp2_with (first
        | (refine wpList_wish rfl fun K hK => wp_idxS (i := i) Try.underlying25 size_ex (.tmp 92) _ rfl rfl rfl hlt (hK _ _ ?_))
        | (at_builtin; refine wpList_addJ rfl (.tmp 90) (.tmp 97) rfl rfl HOW.out e.kids[i].kind rfl rfl ?_ ?_ ?_; (focus (simp only [List.length_map, List.length_take]; omega)); (focus omega); intro v5 w5 ho5 hb5; have hq := ButS.box hb5 (HOW.out.off hgkb) HVS.out; have hq15 := ButS.box hb5 (HOW.out.off hgW) HX15.out; have d7 := hq15.cells.get 7 _ rfl; have hcell := hq.cells.get (i * 8) _ (List.getElem?_eq_getElem (by have := HVL.out; omega)); have hfr := hq.free (i * 8); simp only [Nat.zero_add] at d7 hcell; have HO5 := Lib.hid ho5; have HB5 := Lib.hid hb5; have HQ := Lib.hid hq; clear ho5 hb5 hq hq15)
        | (refine wpList_wish rfl fun K hK => wp_idxS (i := i) Try.underlying25 size_ex (.tmp 100) _ rfl rfl rfl hlt (hK _ _ ?_)))
      refine ⟨⟨i + 1, by simp, by omega, ?_, ?_, fun _ => ⟨vs.set (i * 8) (.int .i64 (-7)), ?_, ?_⟩⟩, by simp only [intOf]; omega⟩
      · rw [HTK.out, List.map_append]
        exact HO5.out.buts (M := fun k => k = gk) (ButS.set_ (M := fun k => k = gk) (p := ⟨gk, _, none⟩) (.inr rfl) _ (ButS.refl _ _)) (fun k hk => by omega)
      · refine ButS.set_ (M := fun k => k = gk ∨ k = kb) (p := ⟨gk, _, none⟩) (.inr (.inl rfl)) _ (HBS.out.over HB5.out fun k hk => ?_)
        have := (HOW.out.lt hk).2
        omega
      · exact HQ.out.putAt _ (by have := HVL.out; omega)
      · rw [List.length_set]; exact HVL.out
    · have hlt' : ¬ ((i : Int) < (e.kids.length : Int)) := by omega
      obtain rfl : i = e.kids.length := by omega
      rw [List.take_length] at hown
      have c7 := HX0.out.cells.get 7 _ rfl
      simp only [Nat.zero_add] at c7
      have HOW := Lib.hid hown; have HEW := Lib.hid hEw
      clear hown hbs hbx hEw
      go_wp2_with fail
      obtain ⟨wo, hwo⟩ : ∃ wo, wo = wr := ⟨_, rfl⟩
      subst hwo
      go_loopw [108] (fun y wq => ∃ i : Nat, y = .int .i64 (i : Int) ∧ i ≤ e.kids.length ∧ Ext wo wq) (fun y _ => e.kids.length - (intOf y).toNat)
      case atStart => exact ⟨0, rfl, by omega, Ext.refl _⟩
      case round =>
        rename_i hrel
        obtain ⟨i, rfl, hi, hq⟩ := hrel
        by_cases hlt : i < e.kids.length
        · have hlt' : (i : Int) < (e.kids.length : Int) := by omega
          have hI : (i : Int) ≤ 1000 := by omega
          have hne : e.kids ≠ [] := fun h => by rw [h] at hlt; simp at hlt
          have hget := HOW.out.get (by simpa using hne)
          rw [List.length_map] at hget
          obtain ⟨kg, kc, rfl, hkg, hkcell⟩ := hget
          obtain ⟨g, o, s', rfl, -, hat, -, hg⟩ := (HIE.out wo HEW.out).mk_inv.2.2.2.2.get i hlt
          have HAT := Lib.hid (fun u (hu : Ext wo u) => hat.ext hu hg)
          have HKC : Hid (∀ u, Ext wo u → u.cell? ⟨kg, 0 + i * 1, none⟩ = some (.int .i64 e.kids[i].kind)) := Lib.hid fun u hu => by
            have h := hkcell i e.kids[i].kind (by rw [List.getElem?_map, List.getElem?_eq_getElem hlt]; rfl)
            rw [Nat.zero_add, Nat.mul_one]
            exact ((hu.at_ kg hkg).1 i).trans h
          have HKD : Hid (∀ u, Ext wo u → u.cell? ⟨kg, i, none⟩ = some (.int .i64 e.kids[i].kind)) := Lib.hid fun u hu => by have h := HKC.out u hu; simpa using h
          have HQ := Lib.hid hq
          clear hat hkcell hq c7
          go_wp2_with fail
          refine wp_region_ext (by kernel_rfl) (by kernel_rfl) ?_; (repeat (first | (refine quiet_cell2 (.tmp 111) rfl rfl Try.underlying25 rfl rfl (fun w' hw => (HX0.out.ext (HQ.out.trans hw)).cells.get 7 _ rfl) ?_) | (refine quiet_idxS2 (i := i) (.tmp 112) _ rfl rfl Try.underlying25 size_ex rfl rfl hlt ?_) | (refine quiet_cell2 (.tmp 115) rfl rfl Try.underlying3 rfl rfl (fun w' hw => (HAT.out w' (HQ.out.trans hw)).get 0 _ rfl) ?_) | (refine quiet_idxS2 (i := i) (.tmp 117) _ rfl rfl Try.underlying73 size_int rfl rfl hlt ?_) | (refine quiet_cell2 (.tmp 119) rfl rfl Try.underlying3 rfl rfl (fun w' hw => HKC.out w' (HQ.out.trans hw)) ?_) | (refine quiet_cell2 (.tmp 119) rfl rfl Try.underlying3 rfl rfl (fun w' hw => HKD.out w' (HQ.out.trans hw)) ?_) | (refine wpQuiet_step (fun K hK => ?_); go_simp; first | (refine hK _ ?_; clear hK K) | (refine ⟨_, fun w hw => rfl, hK _ ?_⟩; clear hK K)))); refine wpQuiet_nil ?_
          intro w6 hw6
          go_wp2_with fail
          refine ⟨⟨i + 1, by simp, by omega, HQ.out.trans hw6⟩, by simp [intOf] <;> omega⟩
        · have hlt' : ¬ ((i : Int) < (e.kids.length : Int)) := by omega
          obtain rfl : i = e.kids.length := by omega
          go_wp2_with (go_at_call 13; refine (works22 _).mono ?_; rintro ev w3 ⟨rfl, hb3⟩)
          go_ret
          exact ⟨rfl, HEW.out.trans (hq.trans hb3)⟩
end Go.Proofs.Ytlcdjaclahhdnaa
