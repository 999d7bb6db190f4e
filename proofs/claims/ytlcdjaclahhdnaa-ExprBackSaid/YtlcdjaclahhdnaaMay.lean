/- The call of access.May. Printed by wip/tools/gen_may.py. -/
import Derived.Test.YtlcdjaclahhdnaaCol
namespace Go.Proofs.Ytlcdjaclahhdnaa
open Go.RowKit
set_option linter.unusedSimpArgs false
set_option linter.unusedVariables false
attribute [local irreducible] wpQuiet wpList Code.wp

/-- May a condition be true in a zone of so many rows, of which the columns' ranges are known? -/
def Ex.may (zr : Int) (cols : List Rng) (rel : Int) (e : Ex) : Bool :=
  if ¬ 0 ≤ e.count 1 400 then true else
  match e with
  | .mk k _ _ _ l =>
    if k = 7 ∨ k = 8 ∨ k = 9 then
      match l with
      | [a, b] =>
        (match (if b.kind = 2 then colE cols rel a else none) with
        | some g => cmpd k g b.const false
        | none => (match (if a.kind = 2 then colE cols rel b else none) with
          | some g => cmpd k g a.const true
          | none => true))
      | _ => true
    else if k = 13 then (match l with | [a] => (match colE cols rel a with | some g => decide (0 < g.nulls) | none => true) | _ => true)
    else if k = 12 then (match l with | [.mk 13 _ _ _ [a]] => (match colE cols rel a with | some g => decide (g.nulls < zr) | none => true) | _ => true)
    else true

set_option maxRecDepth 100000 in
set_option maxHeartbeats 8000000 in
theorem may_bad (zr rel : Int) (cols : List Rng) (zs : Value) (k r c : Int) (v : Val) (l : List Ex) (es : Value) (w : World) (hz : RngsIn w zs cols) (he : Ex.In w (.mk k r c v l) es) (hf : ¬ 0 ≤ (Ex.mk k r c v l).count 1 400) :
    Calls Try.prog 47 #[.agg #[.int .i64 zr, zs], .int .i64 rel, .agg (exCells k r c v es).toArray] w fun ev w' => ev = .returned (.bool (true)) ∧ Ext w w' := by
  unfold exCells
  obtain ⟨ZA, zcap, rfl, -⟩ := hz.val
  have HZ : Hid (∀ u, Ext w u → RngsIn u (.slice ZA cols.length zcap) cols) := Lib.hid fun u h => hz.ext h
  obtain ⟨hlm, EA, ecap, rfl, hkr⟩ := he.kids
  have HX : Hid (∀ u, Ext w u → Ex.In u (.mk k r c v l) (.slice EA l.length ecap)) := Lib.hid fun u h => Ex.In.ext h _ _ he
  have HKI : Hid (ExsIn w (.slice EA l.length ecap) l) := Lib.hid he.kids
  have HV := Lib.hid he.fields.2.2.2
  clear hz he hlm hkr
  have HB0 := Lib.hid ((BoxAt.new (w := w) (vs := [.int .i64 zr, .slice ZA cols.length zcap]) (t := 84) rfl rfl).ext ((Ext.refl (w.alloc (.cells [.int .i64 zr, .slice ZA cols.length zcap].toArray 84))).alloc (.cells [.int .i64 k, .int .i64 r, .int .i64 c, .int .i64 v.kind, .int .i64 v.int, .float .f64 v.flt, .string v.text, .slice EA l.length ecap].toArray 27)))
  have HB1 := Lib.hid (BoxAt.new (w := (w.alloc (.cells [.int .i64 zr, .slice ZA cols.length zcap].toArray 84))) (g := w.heap.size + 1) (vs := [.int .i64 k, .int .i64 r, .int .i64 c, .int .i64 v.kind, .int .i64 v.int, .float .f64 v.flt, .string v.text, .slice EA l.length ecap]) (t := 27) (by simp) rfl)
  have HE := Lib.hid (((Ext.refl w).alloc (.cells [.int .i64 zr, .slice ZA cols.length zcap].toArray 84)).alloc (.cells [.int .i64 k, .int .i64 r, .int .i64 c, .int .i64 v.kind, .int .i64 v.int, .float .f64 v.flt, .string v.text, .slice EA l.length ecap].toArray 27))
  have HF : Hid (∀ u, Ext w u → Calls Try.prog 15 #[.agg #[.int .i64 k, .int .i64 r, .int .i64 c, .int .i64 v.kind, .int .i64 v.int, .float .f64 v.flt, .string v.text, .slice EA l.length ecap]] u fun ev w' => ev = .returned (.bool (decide (0 ≤ (Ex.mk k r c v l).count 1 400))) ∧ Ext u w') := Lib.hid fun u h => formed_of (.mk k r c v l) _ u (HX.out u h)
  rw [decide_eq_false hf] at HF
  clear hf
  go_enter Try.func47, Try.ntmps47
  go_wp2_with (first
    | (refine wpList_ldA (.tmp 5) (vs := [.int .i64 k, .int .i64 r, .int .i64 c, .int .i64 v.kind, .int .i64 v.int, .float .f64 v.flt, .string v.text, .slice EA l.length ecap]) rfl rfl agg_ex rfl (HB1.out.cells) ?_)
    | (go_at_call 15; refine (HF.out _ HE.out).mono ?_; rintro ev w2 ⟨rfl, hb2⟩; have HE2 := Lib.hid (HE.out.trans hb2); have HZ2 := Lib.hid (HB0.out.ext hb2); have HX2 := Lib.hid (HB1.out.ext hb2); obtain ⟨x0, x1, x2, x3, x4, x5, x6, x7, -⟩ := HX2.out.cells; simp only [Nat.zero_add, Nat.reduceAdd] at x0 x1 x2 x3 x4 x5 x6 x7; clear hb2))
  go_ret
  exact ⟨rfl, HE2.out⟩
set_option maxRecDepth 100000 in
set_option maxHeartbeats 8000000 in
theorem may_else (zr rel : Int) (cols : List Rng) (zs : Value) (k r c : Int) (v : Val) (l : List Ex) (es : Value) (w : World) (hz : RngsIn w zs cols) (he : Ex.In w (.mk k r c v l) es) (hf : 0 ≤ (Ex.mk k r c v l).count 1 400) (h7 : ¬ (k = 7 ∨ k = 8 ∨ k = 9)) (h13 : ¬ k = 13) (h12 : ¬ k = 12) :
    Calls Try.prog 47 #[.agg #[.int .i64 zr, zs], .int .i64 rel, .agg (exCells k r c v es).toArray] w fun ev w' => ev = .returned (.bool (true)) ∧ Ext w w' := by
  unfold exCells
  obtain ⟨ZA, zcap, rfl, -⟩ := hz.val
  have HZ : Hid (∀ u, Ext w u → RngsIn u (.slice ZA cols.length zcap) cols) := Lib.hid fun u h => hz.ext h
  obtain ⟨hlm, EA, ecap, rfl, hkr⟩ := he.kids
  have HX : Hid (∀ u, Ext w u → Ex.In u (.mk k r c v l) (.slice EA l.length ecap)) := Lib.hid fun u h => Ex.In.ext h _ _ he
  have HKI : Hid (ExsIn w (.slice EA l.length ecap) l) := Lib.hid he.kids
  have HV := Lib.hid he.fields.2.2.2
  clear hz he hlm hkr
  have HB0 := Lib.hid ((BoxAt.new (w := w) (vs := [.int .i64 zr, .slice ZA cols.length zcap]) (t := 84) rfl rfl).ext ((Ext.refl (w.alloc (.cells [.int .i64 zr, .slice ZA cols.length zcap].toArray 84))).alloc (.cells [.int .i64 k, .int .i64 r, .int .i64 c, .int .i64 v.kind, .int .i64 v.int, .float .f64 v.flt, .string v.text, .slice EA l.length ecap].toArray 27)))
  have HB1 := Lib.hid (BoxAt.new (w := (w.alloc (.cells [.int .i64 zr, .slice ZA cols.length zcap].toArray 84))) (g := w.heap.size + 1) (vs := [.int .i64 k, .int .i64 r, .int .i64 c, .int .i64 v.kind, .int .i64 v.int, .float .f64 v.flt, .string v.text, .slice EA l.length ecap]) (t := 27) (by simp) rfl)
  have HE := Lib.hid (((Ext.refl w).alloc (.cells [.int .i64 zr, .slice ZA cols.length zcap].toArray 84)).alloc (.cells [.int .i64 k, .int .i64 r, .int .i64 c, .int .i64 v.kind, .int .i64 v.int, .float .f64 v.flt, .string v.text, .slice EA l.length ecap].toArray 27))
  have HF : Hid (∀ u, Ext w u → Calls Try.prog 15 #[.agg #[.int .i64 k, .int .i64 r, .int .i64 c, .int .i64 v.kind, .int .i64 v.int, .float .f64 v.flt, .string v.text, .slice EA l.length ecap]] u fun ev w' => ev = .returned (.bool (decide (0 ≤ (Ex.mk k r c v l).count 1 400))) ∧ Ext u w') := Lib.hid fun u h => formed_of (.mk k r c v l) _ u (HX.out u h)
  rw [decide_eq_true hf] at HF
  have q7 : (k == 7) = false := by simp; omega
  have q8 : (k == 8) = false := by simp; omega
  have q9 : (k == 9) = false := by simp; omega
  have q13 : (k == 13) = false := by simp; omega
  have q12 : (k == 12) = false := by simp; omega
  clear hf h7 h13 h12
  go_enter Try.func47, Try.ntmps47
  go_wp2_with (first
    | (refine wpList_ldA (.tmp 5) (vs := [.int .i64 k, .int .i64 r, .int .i64 c, .int .i64 v.kind, .int .i64 v.int, .float .f64 v.flt, .string v.text, .slice EA l.length ecap]) rfl rfl agg_ex rfl (HB1.out.cells) ?_)
    | (go_at_call 15; refine (HF.out _ HE.out).mono ?_; rintro ev w2 ⟨rfl, hb2⟩; have HE2 := Lib.hid (HE.out.trans hb2); have HZ2 := Lib.hid (HB0.out.ext hb2); have HX2 := Lib.hid (HB1.out.ext hb2); obtain ⟨x0, x1, x2, x3, x4, x5, x6, x7, -⟩ := HX2.out.cells; simp only [Nat.zero_add, Nat.reduceAdd] at x0 x1 x2 x3 x4 x5 x6 x7; clear hb2))
  go_ret
  exact ⟨rfl, HE2.out⟩
set_option maxRecDepth 100000 in
set_option maxHeartbeats 8000000 in
theorem may_null (zr rel : Int) (cols : List Rng) (zs : Value) (k r c : Int) (v : Val) (l : List Ex) (es : Value) (w : World) (hz : RngsIn w zs cols) (he : Ex.In w (.mk k r c v l) es) (a : Ex) (hl : l = [a]) (hf : 0 ≤ (Ex.mk k r c v l).count 1 400) (hk : k = 13) (hac : 0 ≤ a.col) :
    Calls Try.prog 47 #[.agg #[.int .i64 zr, zs], .int .i64 rel, .agg (exCells k r c v es).toArray] w fun ev w' => ev = .returned (.bool (match colE cols rel a with | some g => decide (0 < g.nulls) | none => true)) ∧ Ext w w' := by
  unfold exCells
  subst hl hk
  obtain ⟨ZA, zcap, rfl, -⟩ := hz.val
  have HZ : Hid (∀ u, Ext w u → RngsIn u (.slice ZA cols.length zcap) cols) := Lib.hid fun u h => hz.ext h
  obtain ⟨hlm, EA, ecap, rfl, hkr⟩ := he.kids
  have HX : Hid (∀ u, Ext w u → Ex.In u (.mk 13 r c v [a]) (.slice EA [a].length ecap)) := Lib.hid fun u h => Ex.In.ext h _ _ he
  have HKI : Hid (ExsIn w (.slice EA [a].length ecap) [a]) := Lib.hid he.kids
  have HV := Lib.hid he.fields.2.2.2
  clear hz he hlm hkr
  have HB0 := Lib.hid ((BoxAt.new (w := w) (vs := [.int .i64 zr, .slice ZA cols.length zcap]) (t := 84) rfl rfl).ext ((Ext.refl (w.alloc (.cells [.int .i64 zr, .slice ZA cols.length zcap].toArray 84))).alloc (.cells [.int .i64 13, .int .i64 r, .int .i64 c, .int .i64 v.kind, .int .i64 v.int, .float .f64 v.flt, .string v.text, .slice EA [a].length ecap].toArray 27)))
  have HB1 := Lib.hid (BoxAt.new (w := (w.alloc (.cells [.int .i64 zr, .slice ZA cols.length zcap].toArray 84))) (g := w.heap.size + 1) (vs := [.int .i64 13, .int .i64 r, .int .i64 c, .int .i64 v.kind, .int .i64 v.int, .float .f64 v.flt, .string v.text, .slice EA [a].length ecap]) (t := 27) (by simp) rfl)
  have HE := Lib.hid (((Ext.refl w).alloc (.cells [.int .i64 zr, .slice ZA cols.length zcap].toArray 84)).alloc (.cells [.int .i64 13, .int .i64 r, .int .i64 c, .int .i64 v.kind, .int .i64 v.int, .float .f64 v.flt, .string v.text, .slice EA [a].length ecap].toArray 27))
  have HF : Hid (∀ u, Ext w u → Calls Try.prog 15 #[.agg #[.int .i64 13, .int .i64 r, .int .i64 c, .int .i64 v.kind, .int .i64 v.int, .float .f64 v.flt, .string v.text, .slice EA [a].length ecap]] u fun ev w' => ev = .returned (.bool (decide (0 ≤ (Ex.mk 13 r c v [a]).count 1 400))) ∧ Ext u w') := Lib.hid fun u h => formed_of (.mk 13 r c v [a]) _ u (HX.out u h)
  rw [decide_eq_true hf] at HF
  clear hf
  simp only [List.length_cons, List.length_nil, Nat.zero_add, Nat.reduceAdd] at *
  obtain ⟨g, o, s1, h1, -, hat, hia, hg⟩ := HKI.out.get 0 (by simp)
  subst h1
  obtain ⟨-, A1, c1, rfl, -⟩ := hia.mk_inv.2.2.2.2
  have HA1 : Hid (∀ u, Ext w u → At u g (o + 0 * 8) [.int .i64 a.kind, .int .i64 a.rel, .int .i64 a.col, .int .i64 a.const.kind, .int .i64 a.const.int, .float .f64 a.const.flt, .string a.const.text, .slice A1 a.kids.length c1]) := Lib.hid fun u h => hat.ext h hg
  have HCC : Hid (∀ u, Ext w u → Calls Try.prog 104 #[.agg #[.int .i64 zr, .slice ZA cols.length zcap], .int .i64 rel, .agg #[.int .i64 a.kind, .int .i64 a.rel, .int .i64 a.col, .int .i64 a.const.kind, .int .i64 a.const.int, .float .f64 a.const.flt, .string a.const.text, .slice A1 a.kids.length c1]] u fun ev w' => ev = .returned (.tuple #[.agg ((colE cols rel a).getD Rng.zero).cells.toArray, .bool (colE cols rel a).isSome]) ∧ Ext u w') := Lib.hid fun u h => columnZ_of zr rel cols _ a _ u (HZ.out u h) (Ex.In.ext h _ _ hia) hac
  have hR : (match colE cols rel a with | some g => decide (0 < g.nulls) | none => true) = (if (colE cols rel a).isSome = true then decide (0 < ((colE cols rel a).getD Rng.zero).nulls) else true) := by cases colE cols rel a <;> rfl
  rw [hR]
  clear hR hat hia HKI HX HV HZ hac
  unfold Rng.cells at HCC
  generalize (colE cols rel a).getD Rng.zero = q at *
  generalize (colE cols rel a).isSome = b1 at *
  go_enter Try.func47, Try.ntmps47
  go_upto_region 15 with (first
    | (refine wpList_ldA (.tmp 5) (vs := [.int .i64 13, .int .i64 r, .int .i64 c, .int .i64 v.kind, .int .i64 v.int, .float .f64 v.flt, .string v.text, .slice (some ⟨g, o, none⟩) 1 ecap]) rfl rfl agg_ex rfl (HB1.out.cells) ?_)
    | (go_at_call 15; refine (HF.out _ HE.out).mono ?_; rintro ev w2 ⟨rfl, hb2⟩; have HE2 := Lib.hid (HE.out.trans hb2); have HZ2 := Lib.hid (HB0.out.ext hb2); have HX2 := Lib.hid (HB1.out.ext hb2); obtain ⟨x0, x1, x2, x3, x4, x5, x6, x7, -⟩ := HX2.out.cells; simp only [Nat.zero_add, Nat.reduceAdd] at x0 x1 x2 x3 x4 x5 x6 x7; clear hb2))
  have HXC : Hid (∀ u, Ext w2 u → u.cell? ⟨w.heap.size + 1, 7, none⟩ = some (.slice (some ⟨g, o, none⟩) 1 ecap)) := Lib.hid fun u h => by have := (HX2.out.ext h).cells.get 7 _ rfl; simpa using this
  clear x0 x1 x2 x3 x4 x5 x6 x7
  refine wp_region_held (S := Ext w2) (by kernel_rfl) ?_
  change wpAnyH _ _ _ _ _ _ _ _ w2.drew
  have HS0 : Hid (Ext w2 w2.drew) := Lib.hid (Ext.refl _).drew
  refine held_run (i := 1) (.int .i64 rel) rfl (by kernel_rfl) (by kernel_rfl) (by kernel_rfl) (fun _ _ _ h => h) rfl (fun u _ => by go_simp) HS0.out ?_
  simp only [Act.put, List.setIfInBounds_toArray, List.set_cons_zero, List.set_cons_succ]
  refine held_run (i := 2) (.pointer (some ⟨w.heap.size + 1, 7, none⟩)) rfl (by kernel_rfl) (by kernel_rfl) (by kernel_rfl) (fun _ _ _ h => h) rfl (fun u _ => by go_simp) HS0.out ?_
  simp only [Act.put, List.setIfInBounds_toArray, List.set_cons_zero, List.set_cons_succ]
  refine held_cell (i := 3) (v := (.slice (some ⟨g, o, none⟩) 1 ecap)) (.tmp 78) rfl rfl (by kernel_rfl) (by kernel_rfl) (by kernel_rfl) (fun _ _ _ h => h) rfl Try.underlying25 rfl rfl (fun u h => HXC.out u h) HS0.out ?_
  simp only [Act.put, List.setIfInBounds_toArray, List.set_cons_zero, List.set_cons_succ]
  refine held_idxS (i := 4) 0 (.tmp 79) (.const (.int .i64 0)) rfl rfl (by kernel_rfl) (by kernel_rfl) (by kernel_rfl) (fun _ _ _ h => h) rfl Try.underlying25 size_ex rfl rfl (by decide) HS0.out ?_
  simp only [Act.put, List.setIfInBounds_toArray, List.set_cons_zero, List.set_cons_succ]
  refine held_loadA (i := 5) (vs := [.int .i64 a.kind, .int .i64 a.rel, .int .i64 a.col, .int .i64 a.const.kind, .int .i64 a.const.int, .float .f64 a.const.flt, .string a.const.text, .slice A1 a.kids.length c1]) (.tmp 80) rfl rfl (by kernel_rfl) (by kernel_rfl) (by kernel_rfl) (fun _ _ _ h => h) rfl agg_ex rfl (fun u h => HA1.out u (HE2.out.trans h)) HS0.out ?_
  simp only [Act.put, List.setIfInBounds_toArray, List.set_cons_zero, List.set_cons_succ]
  refine held_loadA (i := 0) (vs := [.int .i64 zr, .slice ZA cols.length zcap]) (.tmp 3) rfl rfl (by kernel_rfl) (by kernel_rfl) (by kernel_rfl) (fun _ _ _ h => h) rfl agg_zone rfl (fun u h => (HZ2.out.ext h).cells) HS0.out ?_
  simp only [Act.put, List.setIfInBounds_toArray, List.set_cons_zero, List.set_cons_succ]
  refine held_two (i := 6) (j := 10) rfl rfl (by kernel_rfl) rfl rfl (fun K hK => ?_) (fun K hK => ?_)
  · refine wp_callF (fun x w' => x = .tuple #[.agg [.int .i64 q.kind, .int .i64 q.nulls, .int .i64 q.low.kind, .int .i64 q.low.int, .float .f64 q.low.flt, .string q.low.text, .int .i64 q.high.kind, .int .i64 q.high.int, .float .f64 q.high.flt, .string q.high.text].toArray, .bool b1] ∧ Ext w2.drew w') (fun u => by go_simp) ((HCC.out w2.drew (HE2.out.drew)).mono fun e w' h => ⟨_, h.1, rfl, h.2⟩) ?_
    rintro _ w5 ⟨rfl, he5⟩
    have HS5 : Hid (Ext w2 w5) := Lib.hid (HS0.out.trans he5)
    refine hK _ _ HS5.out ?_
    simp only [Act.put, List.setIfInBounds_toArray, List.set_cons_zero, List.set_cons_succ]
    clear hK K
    refine held_run (i := 7) (.tuple #[.agg [.int .i64 q.kind, .int .i64 q.nulls, .int .i64 q.low.kind, .int .i64 q.low.int, .float .f64 q.low.flt, .string q.low.text, .int .i64 q.high.kind, .int .i64 q.high.int, .float .f64 q.high.flt, .string q.high.text].toArray, .bool b1]) rfl (by kernel_rfl) (by kernel_rfl) (by kernel_rfl) (fun _ _ _ h => h) rfl (fun u _ => by go_simp) HS5.out ?_
    simp only [Act.put, List.setIfInBounds_toArray, List.set_cons_zero, List.set_cons_succ]
    refine held_run (i := 8) (.agg [.int .i64 q.kind, .int .i64 q.nulls, .int .i64 q.low.kind, .int .i64 q.low.int, .float .f64 q.low.flt, .string q.low.text, .int .i64 q.high.kind, .int .i64 q.high.int, .float .f64 q.high.flt, .string q.high.text].toArray) rfl (by kernel_rfl) (by kernel_rfl) (by kernel_rfl) (fun _ _ _ h => h) rfl (fun u _ => by go_simp) HS5.out ?_
    simp only [Act.put, List.setIfInBounds_toArray, List.set_cons_zero, List.set_cons_succ]
    refine held_run (i := 9) (.bool b1) rfl (by kernel_rfl) (by kernel_rfl) (by kernel_rfl) (fun _ _ _ h => h) rfl (fun u _ => by go_simp) HS5.out ?_
    simp only [Act.put, List.setIfInBounds_toArray, List.set_cons_zero, List.set_cons_succ]
    refine held_do (i := 10) rfl (by kernel_rfl) rfl fun K hK => ?_
    unfold Oper.wp execOp
    go_simp
    refine hK _ _ (HS5.out.alloc _) ?_
    try simp only [Act.put, List.setIfInBounds_toArray, List.set_cons_zero, List.set_cons_succ]
    clear hK K
    refine held_do (i := 11) rfl (by kernel_rfl) rfl fun K hK => ?_
    refine wp_storeA (vs' := [.int .i64 q.kind, .int .i64 q.nulls, .int .i64 q.low.kind, .int .i64 q.low.int, .float .f64 q.low.flt, .string q.low.text, .int .i64 q.high.kind, .int .i64 q.high.int, .float .f64 q.high.flt, .string q.high.text]) (Rng.one9 rfl) (BoxAt.new (w := w5) (vs := [.int .i64 0, .int .i64 0, .int .i64 0, .int .i64 0, .float .f64 0, .string ⟨#[]⟩, .int .i64 0, .int .i64 0, .float .f64 0, .string ⟨#[]⟩]) (t := 149) rfl rfl) size_rng rfl (.tmp 13) (.tmp 83) rfl rfl rfl ?_
    intro w6 hq1 hq2
    have HE6 : Hid (Ext w2 w6) := Lib.hid (But.to_ext (HS5.out.alloc _) hq2 (HS5.out.size))
    refine hK _ _ HE6.out ?_
    try simp only [Act.put, List.setIfInBounds_toArray, List.set_cons_zero, List.set_cons_succ]
    clear hK K
    refine held_run (i := 12) (.bool b1) rfl (by kernel_rfl) (by kernel_rfl) (by kernel_rfl) (fun _ _ _ h => h) rfl (fun u _ => by go_simp) HE6.out ?_
    simp only [Act.put, List.setIfInBounds_toArray, List.set_cons_zero, List.set_cons_succ]
    refine wpAnyH_done (by kernel_rfl) ?_ _
    obtain ⟨n0, n1, -⟩ := hq1.cells
    simp only [Nat.zero_add] at n0 n1
    clear hq1 hq2
    cases b1
    · go_wp2_with fail
      go_ret
      exact ⟨rfl, HE2.out.trans HE6.out⟩
    · go_wp2_with fail
      go_ret
      exact ⟨ret_bool (by first | rfl | (simp; done)), HE2.out.trans HE6.out⟩
  · unfold Oper.wp execOp
    go_simp
    refine hK _ _ (HS0.out.alloc _) ?_
    try simp only [Act.put, List.setIfInBounds_toArray, List.set_cons_zero, List.set_cons_succ]
    clear hK K
    refine held_do (i := 6) rfl (by kernel_rfl) rfl fun K hK => ?_
    refine wp_callF (fun x w' => x = .tuple #[.agg [.int .i64 q.kind, .int .i64 q.nulls, .int .i64 q.low.kind, .int .i64 q.low.int, .float .f64 q.low.flt, .string q.low.text, .int .i64 q.high.kind, .int .i64 q.high.int, .float .f64 q.high.flt, .string q.high.text].toArray, .bool b1] ∧ Ext (w2.drew.alloc (.cells #[.int .i64 0, .int .i64 0, .int .i64 0, .int .i64 0, .float .f64 0, .string ⟨#[]⟩, .int .i64 0, .int .i64 0, .float .f64 0, .string ⟨#[]⟩] 149)) w') (fun u => by go_simp) ((HCC.out (w2.drew.alloc (.cells #[.int .i64 0, .int .i64 0, .int .i64 0, .int .i64 0, .float .f64 0, .string ⟨#[]⟩, .int .i64 0, .int .i64 0, .float .f64 0, .string ⟨#[]⟩] 149)) (HE2.out.drew.alloc _)).mono fun e w' h => ⟨_, h.1, rfl, h.2⟩) ?_
    rintro _ w5 ⟨rfl, he5⟩
    have HS5 : Hid (Ext w2 w5) := Lib.hid ((HS0.out.alloc _).trans he5)
    refine hK _ _ HS5.out ?_
    try simp only [Act.put, List.setIfInBounds_toArray, List.set_cons_zero, List.set_cons_succ]
    clear hK K
    refine held_run (i := 7) (.tuple #[.agg [.int .i64 q.kind, .int .i64 q.nulls, .int .i64 q.low.kind, .int .i64 q.low.int, .float .f64 q.low.flt, .string q.low.text, .int .i64 q.high.kind, .int .i64 q.high.int, .float .f64 q.high.flt, .string q.high.text].toArray, .bool b1]) rfl (by kernel_rfl) (by kernel_rfl) (by kernel_rfl) (fun _ _ _ h => h) rfl (fun u _ => by go_simp) HS5.out ?_
    simp only [Act.put, List.setIfInBounds_toArray, List.set_cons_zero, List.set_cons_succ]
    refine held_run (i := 8) (.agg [.int .i64 q.kind, .int .i64 q.nulls, .int .i64 q.low.kind, .int .i64 q.low.int, .float .f64 q.low.flt, .string q.low.text, .int .i64 q.high.kind, .int .i64 q.high.int, .float .f64 q.high.flt, .string q.high.text].toArray) rfl (by kernel_rfl) (by kernel_rfl) (by kernel_rfl) (fun _ _ _ h => h) rfl (fun u _ => by go_simp) HS5.out ?_
    simp only [Act.put, List.setIfInBounds_toArray, List.set_cons_zero, List.set_cons_succ]
    refine held_run (i := 9) (.bool b1) rfl (by kernel_rfl) (by kernel_rfl) (by kernel_rfl) (fun _ _ _ h => h) rfl (fun u _ => by go_simp) HS5.out ?_
    simp only [Act.put, List.setIfInBounds_toArray, List.set_cons_zero, List.set_cons_succ]
    refine held_do (i := 11) rfl (by kernel_rfl) rfl fun K hK => ?_
    refine wp_storeA (vs' := [.int .i64 q.kind, .int .i64 q.nulls, .int .i64 q.low.kind, .int .i64 q.low.int, .float .f64 q.low.flt, .string q.low.text, .int .i64 q.high.kind, .int .i64 q.high.int, .float .f64 q.high.flt, .string q.high.text]) (Rng.one9 rfl) ((BoxAt.new (w := w2.drew) (g := w2.heap.size) (vs := [.int .i64 0, .int .i64 0, .int .i64 0, .int .i64 0, .float .f64 0, .string ⟨#[]⟩, .int .i64 0, .int .i64 0, .float .f64 0, .string ⟨#[]⟩]) (t := 149) rfl rfl).ext he5) size_rng rfl (.tmp 13) (.tmp 83) rfl rfl rfl ?_
    intro w6 hq1 hq2
    have HE6 : Hid (Ext w2 w6) := Lib.hid (But.to_ext (HS5.out) hq2 ((Nat.le_refl _)))
    refine hK _ _ HE6.out ?_
    try simp only [Act.put, List.setIfInBounds_toArray, List.set_cons_zero, List.set_cons_succ]
    clear hK K
    refine held_run (i := 12) (.bool b1) rfl (by kernel_rfl) (by kernel_rfl) (by kernel_rfl) (fun _ _ _ h => h) rfl (fun u _ => by go_simp) HE6.out ?_
    simp only [Act.put, List.setIfInBounds_toArray, List.set_cons_zero, List.set_cons_succ]
    refine wpAnyH_done (by kernel_rfl) ?_ _
    obtain ⟨n0, n1, -⟩ := hq1.cells
    simp only [Nat.zero_add] at n0 n1
    clear hq1 hq2
    cases b1
    · go_wp2_with fail
      go_ret
      exact ⟨rfl, HE2.out.trans HE6.out⟩
    · go_wp2_with fail
      go_ret
      exact ⟨ret_bool (by first | rfl | (simp; done)), HE2.out.trans HE6.out⟩
set_option maxRecDepth 100000 in
set_option maxHeartbeats 8000000 in
theorem may_not_no (zr rel : Int) (cols : List Rng) (zs : Value) (k r c : Int) (v : Val) (l : List Ex) (es : Value) (w : World) (hz : RngsIn w zs cols) (he : Ex.In w (.mk k r c v l) es) (kx rx cx : Int) (vx : Val) (lx : List Ex) (hl : l = [.mk kx rx cx vx lx]) (hf : 0 ≤ (Ex.mk k r c v l).count 1 400) (hk : k = 12) (hkx : ¬ kx = 13) :
    Calls Try.prog 47 #[.agg #[.int .i64 zr, zs], .int .i64 rel, .agg (exCells k r c v es).toArray] w fun ev w' => ev = .returned (.bool (true)) ∧ Ext w w' := by
  unfold exCells
  subst hl hk
  obtain ⟨ZA, zcap, rfl, -⟩ := hz.val
  have HZ : Hid (∀ u, Ext w u → RngsIn u (.slice ZA cols.length zcap) cols) := Lib.hid fun u h => hz.ext h
  obtain ⟨hlm, EA, ecap, rfl, hkr⟩ := he.kids
  have HX : Hid (∀ u, Ext w u → Ex.In u (.mk 12 r c v [Ex.mk kx rx cx vx lx]) (.slice EA [Ex.mk kx rx cx vx lx].length ecap)) := Lib.hid fun u h => Ex.In.ext h _ _ he
  have HKI : Hid (ExsIn w (.slice EA [Ex.mk kx rx cx vx lx].length ecap) [Ex.mk kx rx cx vx lx]) := Lib.hid he.kids
  have HV := Lib.hid he.fields.2.2.2
  clear hz he hlm hkr
  have HB0 := Lib.hid ((BoxAt.new (w := w) (vs := [.int .i64 zr, .slice ZA cols.length zcap]) (t := 84) rfl rfl).ext ((Ext.refl (w.alloc (.cells [.int .i64 zr, .slice ZA cols.length zcap].toArray 84))).alloc (.cells [.int .i64 12, .int .i64 r, .int .i64 c, .int .i64 v.kind, .int .i64 v.int, .float .f64 v.flt, .string v.text, .slice EA [Ex.mk kx rx cx vx lx].length ecap].toArray 27)))
  have HB1 := Lib.hid (BoxAt.new (w := (w.alloc (.cells [.int .i64 zr, .slice ZA cols.length zcap].toArray 84))) (g := w.heap.size + 1) (vs := [.int .i64 12, .int .i64 r, .int .i64 c, .int .i64 v.kind, .int .i64 v.int, .float .f64 v.flt, .string v.text, .slice EA [Ex.mk kx rx cx vx lx].length ecap]) (t := 27) (by simp) rfl)
  have HE := Lib.hid (((Ext.refl w).alloc (.cells [.int .i64 zr, .slice ZA cols.length zcap].toArray 84)).alloc (.cells [.int .i64 12, .int .i64 r, .int .i64 c, .int .i64 v.kind, .int .i64 v.int, .float .f64 v.flt, .string v.text, .slice EA [Ex.mk kx rx cx vx lx].length ecap].toArray 27))
  have HF : Hid (∀ u, Ext w u → Calls Try.prog 15 #[.agg #[.int .i64 12, .int .i64 r, .int .i64 c, .int .i64 v.kind, .int .i64 v.int, .float .f64 v.flt, .string v.text, .slice EA [Ex.mk kx rx cx vx lx].length ecap]] u fun ev w' => ev = .returned (.bool (decide (0 ≤ (Ex.mk 12 r c v [Ex.mk kx rx cx vx lx]).count 1 400))) ∧ Ext u w') := Lib.hid fun u h => formed_of (.mk 12 r c v [Ex.mk kx rx cx vx lx]) _ u (HX.out u h)
  rw [decide_eq_true hf] at HF
  clear hf
  simp only [List.length_cons, List.length_nil, Nat.zero_add, Nat.reduceAdd] at *
  obtain ⟨g, o, s1, h1, -, hat, hix, hg⟩ := HKI.out.get 0 (by simp)
  subst h1
  obtain ⟨-, X1, xc, rfl, -⟩ := hix.mk_inv.2.2.2.2
  have HXA : Hid (∀ u, Ext w u → At u g (o + 0 * 8) [.int .i64 kx, .int .i64 rx, .int .i64 cx, .int .i64 vx.kind, .int .i64 vx.int, .float .f64 vx.flt, .string vx.text, .slice X1 lx.length xc]) := Lib.hid fun u h => hat.ext h hg
  have qx : (kx == 13) = false := by simpa using hkx
  clear hat hix hkx HKI HX HV HZ
  go_enter Try.func47, Try.ntmps47
  go_upto_region 20 with (first
    | (refine wpList_ldA (.tmp 5) (vs := [.int .i64 12, .int .i64 r, .int .i64 c, .int .i64 v.kind, .int .i64 v.int, .float .f64 v.flt, .string v.text, .slice (some ⟨g, o, none⟩) 1 ecap]) rfl rfl agg_ex rfl (HB1.out.cells) ?_)
    | (go_at_call 15; refine (HF.out _ HE.out).mono ?_; rintro ev w2 ⟨rfl, hb2⟩; have HE2 := Lib.hid (HE.out.trans hb2); have HZ2 := Lib.hid (HB0.out.ext hb2); have HX2 := Lib.hid (HB1.out.ext hb2); obtain ⟨x0, x1, x2, x3, x4, x5, x6, x7, -⟩ := HX2.out.cells; simp only [Nat.zero_add, Nat.reduceAdd] at x0 x1 x2 x3 x4 x5 x6 x7; clear hb2)
    | (refine wpList_ixS (.tmp 92) _ (i := 0) rfl rfl Try.underlying25 size_ex rfl rfl (by decide) ?_)
    | (refine wpList_ldA (.tmp 93) (vs := [.int .i64 kx, .int .i64 rx, .int .i64 cx, .int .i64 vx.kind, .int .i64 vx.int, .float .f64 vx.flt, .string vx.text, .slice X1 lx.length xc]) rfl rfl agg_ex rfl (HXA.out _ HE2.out) ?_)
    | (refine wpList_storeA (vs' := [.int .i64 kx, .int .i64 rx, .int .i64 cx, .int .i64 vx.kind, .int .i64 vx.int, .float .f64 vx.flt, .string vx.text, .slice X1 lx.length xc]) (Rng.one9 rfl) (BoxAt.new (w := w2) (vs := [.int .i64 0, .int .i64 0, .int .i64 0, .int .i64 0, .int .i64 0, .float .f64 0, .string ⟨#[]⟩, .slice none 0 0]) (t := 27) rfl rfl) size_ex rfl rfl (.tmp 15) _ rfl rfl rfl ?_; intro w3 hq1 hq2; have HB3 := Lib.hid hq1; have HE3 := Lib.hid (But.to_ext (HE2.out.alloc _) hq2 HE2.out.size); have HZ3 := Lib.hid (But.box hq2 (show w.heap.size ≠ w2.heap.size from (by have := HX2.out.lt; omega)) (HZ2.out.ext ((Ext.refl _).alloc _))); clear hq1 hq2))
  obtain ⟨y0, -⟩ := HB3.out.cells
  clear x0 x1 x2 x3 x4 x5 x6 x7
  go_wp2_with fail
  go_ret
  exact ⟨rfl, HE3.out⟩
set_option maxRecDepth 100000 in
set_option maxHeartbeats 8000000 in
theorem may_not_yes (zr rel : Int) (cols : List Rng) (zs : Value) (k r c : Int) (v : Val) (l : List Ex) (es : Value) (w : World) (hz : RngsIn w zs cols) (he : Ex.In w (.mk k r c v l) es) (rx cx : Int) (vx : Val) (a : Ex) (hl : l = [.mk 13 rx cx vx [a]]) (hf : 0 ≤ (Ex.mk k r c v l).count 1 400) (hk : k = 12) (hac : 0 ≤ a.col) :
    Calls Try.prog 47 #[.agg #[.int .i64 zr, zs], .int .i64 rel, .agg (exCells k r c v es).toArray] w fun ev w' => ev = .returned (.bool (match colE cols rel a with | some g => decide (g.nulls < zr) | none => true)) ∧ Ext w w' := by
  unfold exCells
  subst hl hk
  obtain ⟨ZA, zcap, rfl, -⟩ := hz.val
  have HZ : Hid (∀ u, Ext w u → RngsIn u (.slice ZA cols.length zcap) cols) := Lib.hid fun u h => hz.ext h
  obtain ⟨hlm, EA, ecap, rfl, hkr⟩ := he.kids
  have HX : Hid (∀ u, Ext w u → Ex.In u (.mk 12 r c v [Ex.mk 13 rx cx vx [a]]) (.slice EA [Ex.mk 13 rx cx vx [a]].length ecap)) := Lib.hid fun u h => Ex.In.ext h _ _ he
  have HKI : Hid (ExsIn w (.slice EA [Ex.mk 13 rx cx vx [a]].length ecap) [Ex.mk 13 rx cx vx [a]]) := Lib.hid he.kids
  have HV := Lib.hid he.fields.2.2.2
  clear hz he hlm hkr
  have HB0 := Lib.hid ((BoxAt.new (w := w) (vs := [.int .i64 zr, .slice ZA cols.length zcap]) (t := 84) rfl rfl).ext ((Ext.refl (w.alloc (.cells [.int .i64 zr, .slice ZA cols.length zcap].toArray 84))).alloc (.cells [.int .i64 12, .int .i64 r, .int .i64 c, .int .i64 v.kind, .int .i64 v.int, .float .f64 v.flt, .string v.text, .slice EA [Ex.mk 13 rx cx vx [a]].length ecap].toArray 27)))
  have HB1 := Lib.hid (BoxAt.new (w := (w.alloc (.cells [.int .i64 zr, .slice ZA cols.length zcap].toArray 84))) (g := w.heap.size + 1) (vs := [.int .i64 12, .int .i64 r, .int .i64 c, .int .i64 v.kind, .int .i64 v.int, .float .f64 v.flt, .string v.text, .slice EA [Ex.mk 13 rx cx vx [a]].length ecap]) (t := 27) (by simp) rfl)
  have HE := Lib.hid (((Ext.refl w).alloc (.cells [.int .i64 zr, .slice ZA cols.length zcap].toArray 84)).alloc (.cells [.int .i64 12, .int .i64 r, .int .i64 c, .int .i64 v.kind, .int .i64 v.int, .float .f64 v.flt, .string v.text, .slice EA [Ex.mk 13 rx cx vx [a]].length ecap].toArray 27))
  have HF : Hid (∀ u, Ext w u → Calls Try.prog 15 #[.agg #[.int .i64 12, .int .i64 r, .int .i64 c, .int .i64 v.kind, .int .i64 v.int, .float .f64 v.flt, .string v.text, .slice EA [Ex.mk 13 rx cx vx [a]].length ecap]] u fun ev w' => ev = .returned (.bool (decide (0 ≤ (Ex.mk 12 r c v [Ex.mk 13 rx cx vx [a]]).count 1 400))) ∧ Ext u w') := Lib.hid fun u h => formed_of (.mk 12 r c v [Ex.mk 13 rx cx vx [a]]) _ u (HX.out u h)
  rw [decide_eq_true hf] at HF
  clear hf
  simp only [List.length_cons, List.length_nil, Nat.zero_add, Nat.reduceAdd] at *
  obtain ⟨g, o, s1, h1, -, hat, hix, hg⟩ := HKI.out.get 0 (by simp)
  subst h1
  obtain ⟨-, X1, xc, rfl, -⟩ := hix.mk_inv.2.2.2.2
  obtain ⟨g2, o2, s2, h2, -, hat2, hia, hg2⟩ := (Ex.In.kids hix).get 0 (by simp)
  subst h2
  obtain ⟨-, A1, c1, rfl, -⟩ := hia.mk_inv.2.2.2.2
  have HXA : Hid (∀ u, Ext w u → At u g (o + 0 * 8) [.int .i64 13, .int .i64 rx, .int .i64 cx, .int .i64 vx.kind, .int .i64 vx.int, .float .f64 vx.flt, .string vx.text, .slice (some ⟨g2, o2, none⟩) 1 xc]) := Lib.hid fun u h => hat.ext h hg
  have HA1 : Hid (∀ u, Ext w u → At u g2 (o2 + 0 * 8) [.int .i64 a.kind, .int .i64 a.rel, .int .i64 a.col, .int .i64 a.const.kind, .int .i64 a.const.int, .float .f64 a.const.flt, .string a.const.text, .slice A1 a.kids.length c1]) := Lib.hid fun u h => hat2.ext h hg2
  have HCC : Hid (∀ u, Ext w u → Calls Try.prog 104 #[.agg #[.int .i64 zr, .slice ZA cols.length zcap], .int .i64 rel, .agg #[.int .i64 a.kind, .int .i64 a.rel, .int .i64 a.col, .int .i64 a.const.kind, .int .i64 a.const.int, .float .f64 a.const.flt, .string a.const.text, .slice A1 a.kids.length c1]] u fun ev w' => ev = .returned (.tuple #[.agg ((colE cols rel a).getD Rng.zero).cells.toArray, .bool (colE cols rel a).isSome]) ∧ Ext u w') := Lib.hid fun u h => columnZ_of zr rel cols _ a _ u (HZ.out u h) (Ex.In.ext h _ _ hia) hac
  have hR : (match colE cols rel a with | some g => decide (g.nulls < zr) | none => true) = (if (colE cols rel a).isSome = true then decide (((colE cols rel a).getD Rng.zero).nulls < zr) else true) := by cases colE cols rel a <;> rfl
  rw [hR]
  clear hR hat hat2 hia hix HKI HX HV HZ hac
  unfold Rng.cells at HCC
  generalize (colE cols rel a).getD Rng.zero = q at *
  generalize (colE cols rel a).isSome = b1 at *
  go_enter Try.func47, Try.ntmps47
  go_upto_region 20 with (first
    | (refine wpList_ldA (.tmp 5) (vs := [.int .i64 12, .int .i64 r, .int .i64 c, .int .i64 v.kind, .int .i64 v.int, .float .f64 v.flt, .string v.text, .slice (some ⟨g, o, none⟩) 1 ecap]) rfl rfl agg_ex rfl (HB1.out.cells) ?_)
    | (go_at_call 15; refine (HF.out _ HE.out).mono ?_; rintro ev w2 ⟨rfl, hb2⟩; have HE2 := Lib.hid (HE.out.trans hb2); have HZ2 := Lib.hid (HB0.out.ext hb2); have HX2 := Lib.hid (HB1.out.ext hb2); obtain ⟨x0, x1, x2, x3, x4, x5, x6, x7, -⟩ := HX2.out.cells; simp only [Nat.zero_add, Nat.reduceAdd] at x0 x1 x2 x3 x4 x5 x6 x7; clear hb2)
    | (refine wpList_ixS (.tmp 92) _ (i := 0) rfl rfl Try.underlying25 size_ex rfl rfl (by decide) ?_)
    | (refine wpList_ldA (.tmp 93) (vs := [.int .i64 13, .int .i64 rx, .int .i64 cx, .int .i64 vx.kind, .int .i64 vx.int, .float .f64 vx.flt, .string vx.text, .slice (some ⟨g2, o2, none⟩) 1 xc]) rfl rfl agg_ex rfl (HXA.out _ HE2.out) ?_)
    | (refine wpList_storeA (vs' := [.int .i64 13, .int .i64 rx, .int .i64 cx, .int .i64 vx.kind, .int .i64 vx.int, .float .f64 vx.flt, .string vx.text, .slice (some ⟨g2, o2, none⟩) 1 xc]) (Rng.one9 rfl) (BoxAt.new (w := w2) (vs := [.int .i64 0, .int .i64 0, .int .i64 0, .int .i64 0, .int .i64 0, .float .f64 0, .string ⟨#[]⟩, .slice none 0 0]) (t := 27) rfl rfl) size_ex rfl rfl (.tmp 15) _ rfl rfl rfl ?_; intro w3 hq1 hq2; have HB3 := Lib.hid hq1; have HE3 := Lib.hid (But.to_ext (HE2.out.alloc _) hq2 HE2.out.size); have HZ3 := Lib.hid (But.box hq2 (show w.heap.size ≠ w2.heap.size from (by have := HX2.out.lt; omega)) (HZ2.out.ext ((Ext.refl _).alloc _))); clear hq1 hq2))
  obtain ⟨y0, -⟩ := HB3.out.cells
  clear x0 x1 x2 x3 x4 x5 x6 x7
  go_upto_region 21 with fail
  have HXC : Hid (∀ u, Ext w3 u → u.cell? ⟨w2.heap.size, 7, none⟩ = some (.slice (some ⟨g2, o2, none⟩) 1 xc)) := Lib.hid fun u h => by have := (HB3.out.ext h).cells.get 7 _ rfl; simpa using this
  clear HB3 y0
  refine wp_region_held (S := Ext w3) (by kernel_rfl) ?_
  change wpAnyH _ _ _ _ _ _ _ _ w3.drew
  have HS0 : Hid (Ext w3 w3.drew) := Lib.hid (Ext.refl _).drew
  refine held_run (i := 1) (.int .i64 rel) rfl (by kernel_rfl) (by kernel_rfl) (by kernel_rfl) (fun _ _ _ h => h) rfl (fun u _ => by go_simp) HS0.out ?_
  simp only [Act.put, List.setIfInBounds_toArray, List.set_cons_zero, List.set_cons_succ]
  refine held_run (i := 2) (.pointer (some ⟨w2.heap.size, 7, none⟩)) rfl (by kernel_rfl) (by kernel_rfl) (by kernel_rfl) (fun _ _ _ h => h) rfl (fun u _ => by go_simp) HS0.out ?_
  simp only [Act.put, List.setIfInBounds_toArray, List.set_cons_zero, List.set_cons_succ]
  refine held_cell (i := 3) (v := (.slice (some ⟨g2, o2, none⟩) 1 xc)) (.tmp 101) rfl rfl (by kernel_rfl) (by kernel_rfl) (by kernel_rfl) (fun _ _ _ h => h) rfl Try.underlying25 rfl rfl (fun u h => HXC.out u h) HS0.out ?_
  simp only [Act.put, List.setIfInBounds_toArray, List.set_cons_zero, List.set_cons_succ]
  refine held_idxS (i := 4) 0 (.tmp 102) (.const (.int .i64 0)) rfl rfl (by kernel_rfl) (by kernel_rfl) (by kernel_rfl) (fun _ _ _ h => h) rfl Try.underlying25 size_ex rfl rfl (by decide) HS0.out ?_
  simp only [Act.put, List.setIfInBounds_toArray, List.set_cons_zero, List.set_cons_succ]
  refine held_loadA (i := 5) (vs := [.int .i64 a.kind, .int .i64 a.rel, .int .i64 a.col, .int .i64 a.const.kind, .int .i64 a.const.int, .float .f64 a.const.flt, .string a.const.text, .slice A1 a.kids.length c1]) (.tmp 103) rfl rfl (by kernel_rfl) (by kernel_rfl) (by kernel_rfl) (fun _ _ _ h => h) rfl agg_ex rfl (fun u h => HA1.out u (HE3.out.trans h)) HS0.out ?_
  simp only [Act.put, List.setIfInBounds_toArray, List.set_cons_zero, List.set_cons_succ]
  refine held_loadA (i := 0) (vs := [.int .i64 zr, .slice ZA cols.length zcap]) (.tmp 3) rfl rfl (by kernel_rfl) (by kernel_rfl) (by kernel_rfl) (fun _ _ _ h => h) rfl agg_zone rfl (fun u h => (HZ3.out.ext h).cells) HS0.out ?_
  simp only [Act.put, List.setIfInBounds_toArray, List.set_cons_zero, List.set_cons_succ]
  refine held_two (i := 6) (j := 10) rfl rfl (by kernel_rfl) rfl rfl (fun K hK => ?_) (fun K hK => ?_)
  · refine wp_callF (fun x w' => x = .tuple #[.agg [.int .i64 q.kind, .int .i64 q.nulls, .int .i64 q.low.kind, .int .i64 q.low.int, .float .f64 q.low.flt, .string q.low.text, .int .i64 q.high.kind, .int .i64 q.high.int, .float .f64 q.high.flt, .string q.high.text].toArray, .bool b1] ∧ Ext w3.drew w') (fun u => by go_simp) ((HCC.out w3.drew (HE3.out.drew)).mono fun e w' h => ⟨_, h.1, rfl, h.2⟩) ?_
    rintro _ w5 ⟨rfl, he5⟩
    have HS5 : Hid (Ext w3 w5) := Lib.hid (HS0.out.trans he5)
    refine hK _ _ HS5.out ?_
    simp only [Act.put, List.setIfInBounds_toArray, List.set_cons_zero, List.set_cons_succ]
    clear hK K
    refine held_run (i := 7) (.tuple #[.agg [.int .i64 q.kind, .int .i64 q.nulls, .int .i64 q.low.kind, .int .i64 q.low.int, .float .f64 q.low.flt, .string q.low.text, .int .i64 q.high.kind, .int .i64 q.high.int, .float .f64 q.high.flt, .string q.high.text].toArray, .bool b1]) rfl (by kernel_rfl) (by kernel_rfl) (by kernel_rfl) (fun _ _ _ h => h) rfl (fun u _ => by go_simp) HS5.out ?_
    simp only [Act.put, List.setIfInBounds_toArray, List.set_cons_zero, List.set_cons_succ]
    refine held_run (i := 8) (.agg [.int .i64 q.kind, .int .i64 q.nulls, .int .i64 q.low.kind, .int .i64 q.low.int, .float .f64 q.low.flt, .string q.low.text, .int .i64 q.high.kind, .int .i64 q.high.int, .float .f64 q.high.flt, .string q.high.text].toArray) rfl (by kernel_rfl) (by kernel_rfl) (by kernel_rfl) (fun _ _ _ h => h) rfl (fun u _ => by go_simp) HS5.out ?_
    simp only [Act.put, List.setIfInBounds_toArray, List.set_cons_zero, List.set_cons_succ]
    refine held_run (i := 9) (.bool b1) rfl (by kernel_rfl) (by kernel_rfl) (by kernel_rfl) (fun _ _ _ h => h) rfl (fun u _ => by go_simp) HS5.out ?_
    simp only [Act.put, List.setIfInBounds_toArray, List.set_cons_zero, List.set_cons_succ]
    refine held_do (i := 10) rfl (by kernel_rfl) rfl fun K hK => ?_
    unfold Oper.wp execOp
    go_simp
    refine hK _ _ (HS5.out.alloc _) ?_
    try simp only [Act.put, List.setIfInBounds_toArray, List.set_cons_zero, List.set_cons_succ]
    clear hK K
    refine held_do (i := 11) rfl (by kernel_rfl) rfl fun K hK => ?_
    refine wp_storeA (vs' := [.int .i64 q.kind, .int .i64 q.nulls, .int .i64 q.low.kind, .int .i64 q.low.int, .float .f64 q.low.flt, .string q.low.text, .int .i64 q.high.kind, .int .i64 q.high.int, .float .f64 q.high.flt, .string q.high.text]) (Rng.one9 rfl) (BoxAt.new (w := w5) (vs := [.int .i64 0, .int .i64 0, .int .i64 0, .int .i64 0, .float .f64 0, .string ⟨#[]⟩, .int .i64 0, .int .i64 0, .float .f64 0, .string ⟨#[]⟩]) (t := 149) rfl rfl) size_rng rfl (.tmp 16) (.tmp 106) rfl rfl rfl ?_
    intro w6 hq1 hq2
    have HE6 : Hid (Ext w3 w6) := Lib.hid (But.to_ext (HS5.out.alloc _) hq2 (HS5.out.size))
    refine hK _ _ HE6.out ?_
    try simp only [Act.put, List.setIfInBounds_toArray, List.set_cons_zero, List.set_cons_succ]
    clear hK K
    refine held_run (i := 12) (.bool b1) rfl (by kernel_rfl) (by kernel_rfl) (by kernel_rfl) (fun _ _ _ h => h) rfl (fun u _ => by go_simp) HE6.out ?_
    simp only [Act.put, List.setIfInBounds_toArray, List.set_cons_zero, List.set_cons_succ]
    refine wpAnyH_done (by kernel_rfl) ?_ _
    obtain ⟨n0, n1, -⟩ := hq1.cells
    obtain ⟨z0, -⟩ := (HZ3.out.ext HE6.out).cells
    simp only [Nat.zero_add] at n0 n1 z0
    clear hq1 hq2
    cases b1
    · go_wp2_with fail
      go_ret
      exact ⟨rfl, HE3.out.trans HE6.out⟩
    · go_wp2_with fail
      go_ret
      exact ⟨ret_bool (by first | rfl | (simp; done)), HE3.out.trans HE6.out⟩
  · unfold Oper.wp execOp
    go_simp
    refine hK _ _ (HS0.out.alloc _) ?_
    try simp only [Act.put, List.setIfInBounds_toArray, List.set_cons_zero, List.set_cons_succ]
    clear hK K
    refine held_do (i := 6) rfl (by kernel_rfl) rfl fun K hK => ?_
    refine wp_callF (fun x w' => x = .tuple #[.agg [.int .i64 q.kind, .int .i64 q.nulls, .int .i64 q.low.kind, .int .i64 q.low.int, .float .f64 q.low.flt, .string q.low.text, .int .i64 q.high.kind, .int .i64 q.high.int, .float .f64 q.high.flt, .string q.high.text].toArray, .bool b1] ∧ Ext (w3.drew.alloc (.cells #[.int .i64 0, .int .i64 0, .int .i64 0, .int .i64 0, .float .f64 0, .string ⟨#[]⟩, .int .i64 0, .int .i64 0, .float .f64 0, .string ⟨#[]⟩] 149)) w') (fun u => by go_simp) ((HCC.out (w3.drew.alloc (.cells #[.int .i64 0, .int .i64 0, .int .i64 0, .int .i64 0, .float .f64 0, .string ⟨#[]⟩, .int .i64 0, .int .i64 0, .float .f64 0, .string ⟨#[]⟩] 149)) (HE3.out.drew.alloc _)).mono fun e w' h => ⟨_, h.1, rfl, h.2⟩) ?_
    rintro _ w5 ⟨rfl, he5⟩
    have HS5 : Hid (Ext w3 w5) := Lib.hid ((HS0.out.alloc _).trans he5)
    refine hK _ _ HS5.out ?_
    try simp only [Act.put, List.setIfInBounds_toArray, List.set_cons_zero, List.set_cons_succ]
    clear hK K
    refine held_run (i := 7) (.tuple #[.agg [.int .i64 q.kind, .int .i64 q.nulls, .int .i64 q.low.kind, .int .i64 q.low.int, .float .f64 q.low.flt, .string q.low.text, .int .i64 q.high.kind, .int .i64 q.high.int, .float .f64 q.high.flt, .string q.high.text].toArray, .bool b1]) rfl (by kernel_rfl) (by kernel_rfl) (by kernel_rfl) (fun _ _ _ h => h) rfl (fun u _ => by go_simp) HS5.out ?_
    simp only [Act.put, List.setIfInBounds_toArray, List.set_cons_zero, List.set_cons_succ]
    refine held_run (i := 8) (.agg [.int .i64 q.kind, .int .i64 q.nulls, .int .i64 q.low.kind, .int .i64 q.low.int, .float .f64 q.low.flt, .string q.low.text, .int .i64 q.high.kind, .int .i64 q.high.int, .float .f64 q.high.flt, .string q.high.text].toArray) rfl (by kernel_rfl) (by kernel_rfl) (by kernel_rfl) (fun _ _ _ h => h) rfl (fun u _ => by go_simp) HS5.out ?_
    simp only [Act.put, List.setIfInBounds_toArray, List.set_cons_zero, List.set_cons_succ]
    refine held_run (i := 9) (.bool b1) rfl (by kernel_rfl) (by kernel_rfl) (by kernel_rfl) (fun _ _ _ h => h) rfl (fun u _ => by go_simp) HS5.out ?_
    simp only [Act.put, List.setIfInBounds_toArray, List.set_cons_zero, List.set_cons_succ]
    refine held_do (i := 11) rfl (by kernel_rfl) rfl fun K hK => ?_
    refine wp_storeA (vs' := [.int .i64 q.kind, .int .i64 q.nulls, .int .i64 q.low.kind, .int .i64 q.low.int, .float .f64 q.low.flt, .string q.low.text, .int .i64 q.high.kind, .int .i64 q.high.int, .float .f64 q.high.flt, .string q.high.text]) (Rng.one9 rfl) ((BoxAt.new (w := w3.drew) (g := w3.heap.size) (vs := [.int .i64 0, .int .i64 0, .int .i64 0, .int .i64 0, .float .f64 0, .string ⟨#[]⟩, .int .i64 0, .int .i64 0, .float .f64 0, .string ⟨#[]⟩]) (t := 149) rfl rfl).ext he5) size_rng rfl (.tmp 16) (.tmp 106) rfl rfl rfl ?_
    intro w6 hq1 hq2
    have HE6 : Hid (Ext w3 w6) := Lib.hid (But.to_ext (HS5.out) hq2 ((Nat.le_refl _)))
    refine hK _ _ HE6.out ?_
    try simp only [Act.put, List.setIfInBounds_toArray, List.set_cons_zero, List.set_cons_succ]
    clear hK K
    refine held_run (i := 12) (.bool b1) rfl (by kernel_rfl) (by kernel_rfl) (by kernel_rfl) (fun _ _ _ h => h) rfl (fun u _ => by go_simp) HE6.out ?_
    simp only [Act.put, List.setIfInBounds_toArray, List.set_cons_zero, List.set_cons_succ]
    refine wpAnyH_done (by kernel_rfl) ?_ _
    obtain ⟨n0, n1, -⟩ := hq1.cells
    obtain ⟨z0, -⟩ := (HZ3.out.ext HE6.out).cells
    simp only [Nat.zero_add] at n0 n1 z0
    clear hq1 hq2
    cases b1
    · go_wp2_with fail
      go_ret
      exact ⟨rfl, HE3.out.trans HE6.out⟩
    · go_wp2_with fail
      go_ret
      exact ⟨ret_bool (by first | rfl | (simp; done)), HE3.out.trans HE6.out⟩
set_option maxRecDepth 100000 in
set_option maxHeartbeats 8000000 in
theorem may_cmp (zr rel : Int) (cols : List Rng) (zs : Value) (k r c : Int) (v : Val) (l : List Ex) (es : Value) (w : World) (hz : RngsIn w zs cols) (he : Ex.In w (.mk k r c v l) es) (a b : Ex) (hl : l = [a, b]) (hf : 0 ≤ (Ex.mk k r c v l).count 1 400) (hk : k = 7 ∨ k = 8 ∨ k = 9) (hac : 0 ≤ a.col) (hbc : 0 ≤ b.col) :
    Calls Try.prog 47 #[.agg #[.int .i64 zr, zs], .int .i64 rel, .agg (exCells k r c v es).toArray] w fun ev w' => ev = .returned (.bool ((match (if b.kind = 2 then colE cols rel a else none) with | some g => cmpd k g b.const false | none => (match (if a.kind = 2 then colE cols rel b else none) with | some g => cmpd k g a.const true | none => true)))) ∧ Ext w w' := by
  unfold exCells
  subst hl
  obtain ⟨ZA, zcap, rfl, -⟩ := hz.val
  have HZ : Hid (∀ u, Ext w u → RngsIn u (.slice ZA cols.length zcap) cols) := Lib.hid fun u h => hz.ext h
  obtain ⟨hlm, EA, ecap, rfl, hkr⟩ := he.kids
  have HX : Hid (∀ u, Ext w u → Ex.In u (.mk k r c v [a, b]) (.slice EA [a, b].length ecap)) := Lib.hid fun u h => Ex.In.ext h _ _ he
  have HKI : Hid (ExsIn w (.slice EA [a, b].length ecap) [a, b]) := Lib.hid he.kids
  have HV := Lib.hid he.fields.2.2.2
  clear hz he hlm hkr
  have HB0 := Lib.hid ((BoxAt.new (w := w) (vs := [.int .i64 zr, .slice ZA cols.length zcap]) (t := 84) rfl rfl).ext ((Ext.refl (w.alloc (.cells [.int .i64 zr, .slice ZA cols.length zcap].toArray 84))).alloc (.cells [.int .i64 k, .int .i64 r, .int .i64 c, .int .i64 v.kind, .int .i64 v.int, .float .f64 v.flt, .string v.text, .slice EA [a, b].length ecap].toArray 27)))
  have HB1 := Lib.hid (BoxAt.new (w := (w.alloc (.cells [.int .i64 zr, .slice ZA cols.length zcap].toArray 84))) (g := w.heap.size + 1) (vs := [.int .i64 k, .int .i64 r, .int .i64 c, .int .i64 v.kind, .int .i64 v.int, .float .f64 v.flt, .string v.text, .slice EA [a, b].length ecap]) (t := 27) (by simp) rfl)
  have HE := Lib.hid (((Ext.refl w).alloc (.cells [.int .i64 zr, .slice ZA cols.length zcap].toArray 84)).alloc (.cells [.int .i64 k, .int .i64 r, .int .i64 c, .int .i64 v.kind, .int .i64 v.int, .float .f64 v.flt, .string v.text, .slice EA [a, b].length ecap].toArray 27))
  have HF : Hid (∀ u, Ext w u → Calls Try.prog 15 #[.agg #[.int .i64 k, .int .i64 r, .int .i64 c, .int .i64 v.kind, .int .i64 v.int, .float .f64 v.flt, .string v.text, .slice EA [a, b].length ecap]] u fun ev w' => ev = .returned (.bool (decide (0 ≤ (Ex.mk k r c v [a, b]).count 1 400))) ∧ Ext u w') := Lib.hid fun u h => formed_of (.mk k r c v [a, b]) _ u (HX.out u h)
  rw [decide_eq_true hf] at HF
  clear hf
  simp only [List.length_cons, List.length_nil, Nat.zero_add, Nat.reduceAdd] at *
  obtain ⟨g, o, s1, h1, -, hat, hia, hg⟩ := HKI.out.get 0 (by simp)
  subst h1
  obtain ⟨-, A1, c1, rfl, -⟩ := hia.mk_inv.2.2.2.2
  have HA1 : Hid (∀ u, Ext w u → At u g (o + 0 * 8) [.int .i64 a.kind, .int .i64 a.rel, .int .i64 a.col, .int .i64 a.const.kind, .int .i64 a.const.int, .float .f64 a.const.flt, .string a.const.text, .slice A1 a.kids.length c1]) := Lib.hid fun u h => hat.ext h hg
  obtain ⟨g', o', s3, h3, -, hatb, hib, -⟩ := HKI.out.get 1 (by simp)
  simp only [Option.some.injEq, Addr.mk.injEq, and_true] at h3
  obtain ⟨rfl, rfl⟩ := h3
  obtain ⟨-, B1, d1, rfl, -⟩ := hib.mk_inv.2.2.2.2
  have HB11 : Hid (∀ u, Ext w u → At u g (o + 1 * 8) [.int .i64 b.kind, .int .i64 b.rel, .int .i64 b.col, .int .i64 b.const.kind, .int .i64 b.const.int, .float .f64 b.const.flt, .string b.const.text, .slice B1 b.kids.length d1]) := Lib.hid fun u h => hatb.ext h hg
  have HC1 : Hid (∀ u, Ext w u → Calls Try.prog 104 #[.agg #[.int .i64 zr, .slice ZA cols.length zcap], .int .i64 rel, .agg #[.int .i64 a.kind, .int .i64 a.rel, .int .i64 a.col, .int .i64 a.const.kind, .int .i64 a.const.int, .float .f64 a.const.flt, .string a.const.text, .slice A1 a.kids.length c1]] u fun ev w' => ev = .returned (.tuple #[.agg ((colE cols rel a).getD Rng.zero).cells.toArray, .bool (colE cols rel a).isSome]) ∧ Ext u w') := Lib.hid fun u h => columnZ_of zr rel cols _ a _ u (HZ.out u h) (Ex.In.ext h _ _ hia) hac
  have HC2 : Hid (∀ u, Ext w u → Calls Try.prog 104 #[.agg #[.int .i64 zr, .slice ZA cols.length zcap], .int .i64 rel, .agg #[.int .i64 b.kind, .int .i64 b.rel, .int .i64 b.col, .int .i64 b.const.kind, .int .i64 b.const.int, .float .f64 b.const.flt, .string b.const.text, .slice B1 b.kids.length d1]] u fun ev w' => ev = .returned (.tuple #[.agg ((colE cols rel b).getD Rng.zero).cells.toArray, .bool (colE cols rel b).isSome]) ∧ Ext u w') := Lib.hid fun u h => columnZ_of zr rel cols _ b _ u (HZ.out u h) (Ex.In.ext h _ _ hib) hbc
  have hR : (match (if b.kind = 2 then colE cols rel a else none) with | some g => cmpd k g b.const false | none => (match (if a.kind = 2 then colE cols rel b else none) with | some g => cmpd k g a.const true | none => true)) = (if (colE cols rel a).isSome && (b.kind == 2) then cmpd k ((colE cols rel a).getD Rng.zero) b.const false else if (colE cols rel b).isSome && (a.kind == 2) then cmpd k ((colE cols rel b).getD Rng.zero) a.const true else true) := by
    cases h1 : colE cols rel a <;> cases h2 : colE cols rel b <;> by_cases h3 : b.kind = 2 <;> by_cases h4 : a.kind = 2 <;> simp [h3, h4]
  rw [hR]
  have hok : ∀ e : Ex, ((colE cols rel e).getD Rng.zero).Ok := fun e => by
    cases h1 : colE cols rel e with
    | none => exact Rng.zero_ok
    | some q => 
      unfold colE at h1
      split at h1
      · split at h1
        · exact (HZ.out w (Ext.refl _)).ok q (List.mem_of_getElem? h1)
        · cases h1
      · cases h1
  have HM1 : Hid (∀ u, Calls Try.prog 105 #[.int .i64 k, .agg ((colE cols rel a).getD Rng.zero).cells.toArray, .agg #[.int .i64 b.const.kind, .int .i64 b.const.int, .float .f64 b.const.flt, .string b.const.text], .bool false] u fun ev w' => ev = .returned (.bool (cmpd k ((colE cols rel a).getD Rng.zero) b.const false)) ∧ Ext u w') := Lib.hid fun u => compared_of k _ b.const false u (hok a) hib.mk_inv.2.2.2.1
  have HM2 : Hid (∀ u, Calls Try.prog 105 #[.int .i64 k, .agg ((colE cols rel b).getD Rng.zero).cells.toArray, .agg #[.int .i64 a.const.kind, .int .i64 a.const.int, .float .f64 a.const.flt, .string a.const.text], .bool true] u fun ev w' => ev = .returned (.bool (cmpd k ((colE cols rel b).getD Rng.zero) a.const true)) ∧ Ext u w') := Lib.hid fun u => compared_of k _ a.const true u (hok b) hia.mk_inv.2.2.2.1
  clear hR hok hat hatb hia hib HKI HX HV HZ hac hbc
  unfold Rng.cells at HC1 HC2 HM1 HM2
  generalize cmpd k ((colE cols rel a).getD Rng.zero) b.const false = m1 at *
  generalize cmpd k ((colE cols rel b).getD Rng.zero) a.const true = m2 at *
  generalize (colE cols rel a).getD Rng.zero = q at *
  generalize (colE cols rel a).isSome = b1 at *
  generalize (colE cols rel b).getD Rng.zero = p at *
  generalize (colE cols rel b).isSome = b2 at *
  generalize hra : (a.kind == 2) = ka at *
  generalize hrb : (b.kind == 2) = kb at *
  have q789 : ((k == 7) = true) ∨ ((k == 7) = false ∧ (k == 8) = true) ∨ ((k == 7) = false ∧ (k == 8) = false ∧ (k == 9) = true) := by
    rcases hk with rfl | rfl | rfl <;> simp
  clear hk
  rcases q789 with q7 | ⟨q7, q8⟩ | ⟨q7, q8, q9⟩
  all_goals
    go_enter Try.func47, Try.ntmps47
    go_upto_region 7 with (first
      | (refine wpList_ldA (.tmp 5) (vs := [.int .i64 k, .int .i64 r, .int .i64 c, .int .i64 v.kind, .int .i64 v.int, .float .f64 v.flt, .string v.text, .slice (some ⟨g, o, none⟩) 2 ecap]) rfl rfl agg_ex rfl (HB1.out.cells) ?_)
      | (go_at_call 15; refine (HF.out _ HE.out).mono ?_; rintro ev w2 ⟨rfl, hb2⟩; have HE2 := Lib.hid (HE.out.trans hb2); have HZ2 := Lib.hid (HB0.out.ext hb2); have HX2 := Lib.hid (HB1.out.ext hb2); obtain ⟨x0, x1, x2, x3, x4, x5, x6, x7, -⟩ := HX2.out.cells; simp only [Nat.zero_add, Nat.reduceAdd] at x0 x1 x2 x3 x4 x5 x6 x7; clear hb2))
    have HXC : Hid (∀ u, Ext w2 u → u.cell? ⟨w.heap.size + 1, 7, none⟩ = some (.slice (some ⟨g, o, none⟩) 2 ecap)) := Lib.hid fun u h => by have := (HX2.out.ext h).cells.get 7 _ rfl; simpa using this
    clear x0 x1 x2 x3 x4 x5 x6 x7
    go_cut [7, 8] (fun s7 s8 wx => ∃ ga gb, s7 = .pointer (some ⟨ga, 0, none⟩) ∧ s8 = .pointer (some ⟨gb, 0, none⟩) ∧ BoxAt wx ga [.int .i64 a.kind, .int .i64 a.rel, .int .i64 a.col, .int .i64 a.const.kind, .int .i64 a.const.int, .float .f64 a.const.flt, .string a.const.text, .slice A1 a.kids.length c1] ∧ BoxAt wx gb [.int .i64 b.kind, .int .i64 b.rel, .int .i64 b.col, .int .i64 b.const.kind, .int .i64 b.const.int, .float .f64 b.const.flt, .string b.const.text, .slice B1 b.kids.length d1] ∧ Ext w2 wx)
    case first =>
      refine wp_region_held (S := Ext w2) (by kernel_rfl) ?_
      change wpAnyH _ _ _ _ _ _ _ _ w2.drew
      have HS0 : Hid (Ext w2 w2.drew) := Lib.hid (Ext.refl _).drew
      refine held_run (i := 0) (.pointer (some ⟨w.heap.size + 1, 7, none⟩)) rfl (by kernel_rfl) (by kernel_rfl) (by kernel_rfl) (fun _ _ _ h => h) rfl (fun u _ => by go_simp) HS0.out ?_
      simp only [Act.put, List.setIfInBounds_toArray, List.set_cons_zero, List.set_cons_succ]
      refine held_cell (i := 1) (v := (.slice (some ⟨g, o, none⟩) 2 ecap)) (.tmp 27) rfl rfl (by kernel_rfl) (by kernel_rfl) (by kernel_rfl) (fun _ _ _ h => h) rfl Try.underlying25 rfl rfl (fun u h => HXC.out u h) HS0.out ?_
      simp only [Act.put, List.setIfInBounds_toArray, List.set_cons_zero, List.set_cons_succ]
      refine held_idxS (i := 2) 0 (.tmp 28) (.const (.int .i64 0)) rfl rfl (by kernel_rfl) (by kernel_rfl) (by kernel_rfl) (fun _ _ _ h => h) rfl Try.underlying25 size_ex rfl rfl (by decide) HS0.out ?_
      simp only [Act.put, List.setIfInBounds_toArray, List.set_cons_zero, List.set_cons_succ]
      refine held_loadA (i := 3) (vs := [.int .i64 a.kind, .int .i64 a.rel, .int .i64 a.col, .int .i64 a.const.kind, .int .i64 a.const.int, .float .f64 a.const.flt, .string a.const.text, .slice A1 a.kids.length c1]) (.tmp 29) rfl rfl (by kernel_rfl) (by kernel_rfl) (by kernel_rfl) (fun _ _ _ h => h) rfl agg_ex rfl (fun u h => HA1.out u (HE2.out.trans h)) HS0.out ?_
      simp only [Act.put, List.setIfInBounds_toArray, List.set_cons_zero, List.set_cons_succ]
      refine held_run (i := 4) (.pointer (some ⟨w.heap.size + 1, 7, none⟩)) rfl (by kernel_rfl) (by kernel_rfl) (by kernel_rfl) (fun _ _ _ h => h) rfl (fun u _ => by go_simp) HS0.out ?_
      simp only [Act.put, List.setIfInBounds_toArray, List.set_cons_zero, List.set_cons_succ]
      refine held_cell (i := 5) (v := (.slice (some ⟨g, o, none⟩) 2 ecap)) (.tmp 31) rfl rfl (by kernel_rfl) (by kernel_rfl) (by kernel_rfl) (fun _ _ _ h => h) rfl Try.underlying25 rfl rfl (fun u h => HXC.out u h) HS0.out ?_
      simp only [Act.put, List.setIfInBounds_toArray, List.set_cons_zero, List.set_cons_succ]
      refine held_idxS (i := 6) 1 (.tmp 32) (.const (.int .i64 1)) rfl rfl (by kernel_rfl) (by kernel_rfl) (by kernel_rfl) (fun _ _ _ h => h) rfl Try.underlying25 size_ex rfl rfl (by decide) HS0.out ?_
      simp only [Act.put, List.setIfInBounds_toArray, List.set_cons_zero, List.set_cons_succ]
      refine held_loadA (i := 7) (vs := [.int .i64 b.kind, .int .i64 b.rel, .int .i64 b.col, .int .i64 b.const.kind, .int .i64 b.const.int, .float .f64 b.const.flt, .string b.const.text, .slice B1 b.kids.length d1]) (.tmp 33) rfl rfl (by kernel_rfl) (by kernel_rfl) (by kernel_rfl) (fun _ _ _ h => h) rfl agg_ex rfl (fun u h => HB11.out u (HE2.out.trans h)) HS0.out ?_
      simp only [Act.put, List.setIfInBounds_toArray, List.set_cons_zero, List.set_cons_succ]
      refine held_two (i := 8) (j := 9) rfl rfl (by kernel_rfl) rfl rfl (fun K hK => ?_) (fun K hK => ?_)
      · unfold Oper.wp execOp
        go_simp
        refine hK _ _ (HS0.out.alloc _) ?_
        try simp only [Act.put, List.setIfInBounds_toArray, List.set_cons_zero, List.set_cons_succ]
        clear hK K
        refine held_do (i := 9) rfl (by kernel_rfl) rfl fun K hK => ?_
        unfold Oper.wp execOp
        go_simp
        refine hK _ _ ((HS0.out.alloc _).alloc _) ?_
        try simp only [Act.put, List.setIfInBounds_toArray, List.set_cons_zero, List.set_cons_succ]
        clear hK K
        have HN0 : Hid (BoxAt ((w2.drew.alloc (.cells #[.int .i64 0, .int .i64 0, .int .i64 0, .int .i64 0, .int .i64 0, .float .f64 0, .string ⟨#[]⟩, .slice none 0 0] 27)).alloc (.cells #[.int .i64 0, .int .i64 0, .int .i64 0, .int .i64 0, .int .i64 0, .float .f64 0, .string ⟨#[]⟩, .slice none 0 0] 27)) w2.heap.size [.int .i64 0, .int .i64 0, .int .i64 0, .int .i64 0, .int .i64 0, .float .f64 0, .string ⟨#[]⟩, .slice none 0 0]) := Lib.hid ((BoxAt.new (w := w2.drew) (g := w2.heap.size) (vs := [.int .i64 0, .int .i64 0, .int .i64 0, .int .i64 0, .int .i64 0, .float .f64 0, .string ⟨#[]⟩, .slice none 0 0]) (t := 27) rfl rfl).ext ((Ext.refl _).alloc _))
        have HN1 : Hid (BoxAt ((w2.drew.alloc (.cells #[.int .i64 0, .int .i64 0, .int .i64 0, .int .i64 0, .int .i64 0, .float .f64 0, .string ⟨#[]⟩, .slice none 0 0] 27)).alloc (.cells #[.int .i64 0, .int .i64 0, .int .i64 0, .int .i64 0, .int .i64 0, .float .f64 0, .string ⟨#[]⟩, .slice none 0 0] 27)) (w2.heap.size + 1) [.int .i64 0, .int .i64 0, .int .i64 0, .int .i64 0, .int .i64 0, .float .f64 0, .string ⟨#[]⟩, .slice none 0 0]) := Lib.hid (BoxAt.new (w := w2.drew.alloc (.cells #[.int .i64 0, .int .i64 0, .int .i64 0, .int .i64 0, .int .i64 0, .float .f64 0, .string ⟨#[]⟩, .slice none 0 0] 27)) (g := w2.heap.size + 1) (vs := [.int .i64 0, .int .i64 0, .int .i64 0, .int .i64 0, .int .i64 0, .float .f64 0, .string ⟨#[]⟩, .slice none 0 0]) (t := 27) (by simp) rfl)
        refine held_do (i := 10) rfl (by kernel_rfl) rfl fun K hK => ?_
        refine wp_storeA (vs' := [.int .i64 a.kind, .int .i64 a.rel, .int .i64 a.col, .int .i64 a.const.kind, .int .i64 a.const.int, .float .f64 a.const.flt, .string a.const.text, .slice A1 a.kids.length c1]) (Rng.one9 rfl) (HN0.out) size_ex rfl (.tmp 7) (.tmp 30) rfl rfl rfl ?_
        intro w5 H5a H5b
        have H5 : Hid (Ext w2 w5) := Lib.hid (But.to_ext ((HS0.out.alloc _).alloc _) H5b (by simp))
        refine hK _ _ H5.out ?_
        try simp only [Act.put, List.setIfInBounds_toArray, List.set_cons_zero, List.set_cons_succ]
        clear hK K
        have HN5 : Hid (BoxAt w5 (w2.heap.size + 1) [.int .i64 0, .int .i64 0, .int .i64 0, .int .i64 0, .int .i64 0, .float .f64 0, .string ⟨#[]⟩, .slice none 0 0]) := Lib.hid (But.box H5b (by omega) HN1.out)
        refine held_do (i := 11) rfl (by kernel_rfl) rfl fun K hK => ?_
        refine wp_storeA (vs' := [.int .i64 b.kind, .int .i64 b.rel, .int .i64 b.col, .int .i64 b.const.kind, .int .i64 b.const.int, .float .f64 b.const.flt, .string b.const.text, .slice B1 b.kids.length d1]) (Rng.one9 rfl) (HN5.out) size_ex rfl (.tmp 8) (.tmp 34) rfl rfl rfl ?_
        intro w6 H6a H6b
        have H6 : Hid (Ext w2 w6) := Lib.hid (But.to_ext H5.out H6b (by simp))
        refine hK _ _ H6.out ?_
        try simp only [Act.put, List.setIfInBounds_toArray, List.set_cons_zero, List.set_cons_succ]
        clear hK K
        refine wpAnyH_done (by kernel_rfl) ?_ _
        go_wp2_with fail
        go_meet
        exact ⟨w2.heap.size + 0, w2.heap.size + 1, rfl, rfl, But.box H6b (by omega) H5a, H6a, H6.out⟩
      · unfold Oper.wp execOp
        go_simp
        refine hK _ _ (HS0.out.alloc _) ?_
        try simp only [Act.put, List.setIfInBounds_toArray, List.set_cons_zero, List.set_cons_succ]
        clear hK K
        refine held_do (i := 8) rfl (by kernel_rfl) rfl fun K hK => ?_
        unfold Oper.wp execOp
        go_simp
        refine hK _ _ ((HS0.out.alloc _).alloc _) ?_
        try simp only [Act.put, List.setIfInBounds_toArray, List.set_cons_zero, List.set_cons_succ]
        clear hK K
        have HN0 : Hid (BoxAt ((w2.drew.alloc (.cells #[.int .i64 0, .int .i64 0, .int .i64 0, .int .i64 0, .int .i64 0, .float .f64 0, .string ⟨#[]⟩, .slice none 0 0] 27)).alloc (.cells #[.int .i64 0, .int .i64 0, .int .i64 0, .int .i64 0, .int .i64 0, .float .f64 0, .string ⟨#[]⟩, .slice none 0 0] 27)) w2.heap.size [.int .i64 0, .int .i64 0, .int .i64 0, .int .i64 0, .int .i64 0, .float .f64 0, .string ⟨#[]⟩, .slice none 0 0]) := Lib.hid ((BoxAt.new (w := w2.drew) (g := w2.heap.size) (vs := [.int .i64 0, .int .i64 0, .int .i64 0, .int .i64 0, .int .i64 0, .float .f64 0, .string ⟨#[]⟩, .slice none 0 0]) (t := 27) rfl rfl).ext ((Ext.refl _).alloc _))
        have HN1 : Hid (BoxAt ((w2.drew.alloc (.cells #[.int .i64 0, .int .i64 0, .int .i64 0, .int .i64 0, .int .i64 0, .float .f64 0, .string ⟨#[]⟩, .slice none 0 0] 27)).alloc (.cells #[.int .i64 0, .int .i64 0, .int .i64 0, .int .i64 0, .int .i64 0, .float .f64 0, .string ⟨#[]⟩, .slice none 0 0] 27)) (w2.heap.size + 1) [.int .i64 0, .int .i64 0, .int .i64 0, .int .i64 0, .int .i64 0, .float .f64 0, .string ⟨#[]⟩, .slice none 0 0]) := Lib.hid (BoxAt.new (w := w2.drew.alloc (.cells #[.int .i64 0, .int .i64 0, .int .i64 0, .int .i64 0, .int .i64 0, .float .f64 0, .string ⟨#[]⟩, .slice none 0 0] 27)) (g := w2.heap.size + 1) (vs := [.int .i64 0, .int .i64 0, .int .i64 0, .int .i64 0, .int .i64 0, .float .f64 0, .string ⟨#[]⟩, .slice none 0 0]) (t := 27) (by simp) rfl)
        refine held_do (i := 10) rfl (by kernel_rfl) rfl fun K hK => ?_
        refine wp_storeA (vs' := [.int .i64 a.kind, .int .i64 a.rel, .int .i64 a.col, .int .i64 a.const.kind, .int .i64 a.const.int, .float .f64 a.const.flt, .string a.const.text, .slice A1 a.kids.length c1]) (Rng.one9 rfl) (HN1.out) size_ex rfl (.tmp 7) (.tmp 30) rfl rfl rfl ?_
        intro w5 H5a H5b
        have H5 : Hid (Ext w2 w5) := Lib.hid (But.to_ext ((HS0.out.alloc _).alloc _) H5b (by simp))
        refine hK _ _ H5.out ?_
        try simp only [Act.put, List.setIfInBounds_toArray, List.set_cons_zero, List.set_cons_succ]
        clear hK K
        have HN5 : Hid (BoxAt w5 (w2.heap.size + 0) [.int .i64 0, .int .i64 0, .int .i64 0, .int .i64 0, .int .i64 0, .float .f64 0, .string ⟨#[]⟩, .slice none 0 0]) := Lib.hid (But.box H5b (by omega) HN0.out)
        refine held_do (i := 11) rfl (by kernel_rfl) rfl fun K hK => ?_
        refine wp_storeA (vs' := [.int .i64 b.kind, .int .i64 b.rel, .int .i64 b.col, .int .i64 b.const.kind, .int .i64 b.const.int, .float .f64 b.const.flt, .string b.const.text, .slice B1 b.kids.length d1]) (Rng.one9 rfl) (HN5.out) size_ex rfl (.tmp 8) (.tmp 34) rfl rfl rfl ?_
        intro w6 H6a H6b
        have H6 : Hid (Ext w2 w6) := Lib.hid (But.to_ext H5.out H6b (by simp))
        refine hK _ _ H6.out ?_
        try simp only [Act.put, List.setIfInBounds_toArray, List.set_cons_zero, List.set_cons_succ]
        clear hK K
        refine wpAnyH_done (by kernel_rfl) ?_ _
        go_wp2_with fail
        go_meet
        exact ⟨w2.heap.size + 1, w2.heap.size + 0, rfl, rfl, But.box H6b (by omega) H5a, H6a, H6.out⟩
    case rest =>
      obtain ⟨ga, gb, rfl, rfl, hca, hcb, hEc⟩ := hcut
      have HCA := Lib.hid hca; have HCB := Lib.hid hcb; have HEc := Lib.hid (HE2.out.trans hEc); have HZc := Lib.hid (HZ2.out.ext hEc); have HXc := Lib.hid (HX2.out.ext hEc)
      clear hca hcb hEc HZ2 HX2 HXC HE2 HA1 HB11 HF HB0 HB1 HE
      have HCc : Hid (At wc gb 3 [.int .i64 b.const.kind, .int .i64 b.const.int, .float .f64 b.const.flt, .string b.const.text]) := Lib.hid (by obtain ⟨-, -, -, a3, a4, a5, a6, -⟩ := HCB.out.cells; exact ⟨a3, a4, a5, a6, trivial⟩)
      have HCd : Hid (At wc ga 3 [.int .i64 a.const.kind, .int .i64 a.const.int, .float .f64 a.const.flt, .string a.const.text]) := Lib.hid (by obtain ⟨-, -, -, a3, a4, a5, a6, -⟩ := HCA.out.cells; exact ⟨a3, a4, a5, a6, trivial⟩)
      go_upto_region 9 with (first
        | (refine wpList_ldA (.tmp 3) (vs := [.int .i64 zr, .slice ZA cols.length zcap]) rfl rfl agg_zone rfl (HZc.out.cells) ?_)
        | (refine wpList_ldA (.tmp 7) (vs := [.int .i64 a.kind, .int .i64 a.rel, .int .i64 a.col, .int .i64 a.const.kind, .int .i64 a.const.int, .float .f64 a.const.flt, .string a.const.text, .slice A1 a.kids.length c1]) rfl rfl agg_ex rfl (HCA.out.cells) ?_)
        | (go_at_call 104; refine (HC1.out _ HEc.out).mono ?_; rintro ev w4 ⟨rfl, he⟩; have HE4 := Lib.hid he; clear he)
        | (refine wpList_storeA (vs' := [.int .i64 q.kind, .int .i64 q.nulls, .int .i64 q.low.kind, .int .i64 q.low.int, .float .f64 q.low.flt, .string q.low.text, .int .i64 q.high.kind, .int .i64 q.high.int, .float .f64 q.high.flt, .string q.high.text]) (Rng.one9 rfl) (BoxAt.new (w := w4) (vs := [.int .i64 0, .int .i64 0, .int .i64 0, .int .i64 0, .float .f64 0, .string ⟨#[]⟩, .int .i64 0, .int .i64 0, .float .f64 0, .string ⟨#[]⟩]) (t := 149) rfl rfl) size_rng rfl rfl (.tmp 9) _ rfl rfl rfl ?_; intro w5 hq1 hq2; have HG5 := Lib.hid hq1; have HE5 := Lib.hid (But.to_ext (HE4.out.alloc _) hq2 HE4.out.size); clear hq1 hq2))
      refine name_worldA (fun u => Ext wc u ∧ BoxAt u w4.heap.size [.int .i64 q.kind, .int .i64 q.nulls, .int .i64 q.low.kind, .int .i64 q.low.int, .float .f64 q.low.flt, .string q.low.text, .int .i64 q.high.kind, .int .i64 q.high.int, .float .f64 q.high.flt, .string q.high.text]) ⟨HE5.out, HG5.out⟩ ?_
      clear HE4 HE5 HG5
      generalize w4.heap.size = g9 at *
      clear w4 w5
      rintro w5 ⟨he5, hg5⟩
      have HE5 := Lib.hid he5; have HG5 := Lib.hid hg5
      obtain ⟨kb0, -⟩ := (HCB.out.ext he5).cells
      obtain ⟨ka0, -⟩ := (HCA.out.ext he5).cells
      obtain ⟨-, -⟩ := And.intro trivial trivial
      have kk0 : w5.cell? ⟨w.heap.size + 1, 0, none⟩ = some (.int .i64 k) := by have := (HXc.out.ext he5).cells.get 0 _ rfl; simpa using this
      clear he5 hg5
      cases b1
      · skip
        go_upto_region 11 with fail
        clear HG5 HM1 HCc HC1
        go_upto_region 12 with (first
          | (refine wpList_ldA (.tmp 3) (vs := [.int .i64 zr, .slice ZA cols.length zcap]) rfl rfl agg_zone rfl ((HZc.out.ext HE5.out).cells) ?_)
          | (refine wpList_ldA (.tmp 8) (vs := [.int .i64 b.kind, .int .i64 b.rel, .int .i64 b.col, .int .i64 b.const.kind, .int .i64 b.const.int, .float .f64 b.const.flt, .string b.const.text, .slice B1 b.kids.length d1]) rfl rfl agg_ex rfl ((HCB.out.ext HE5.out).cells) ?_)
          | (go_at_call 104; refine (HC2.out _ (HEc.out.trans HE5.out)).mono ?_; rintro ev w6 ⟨rfl, he⟩; have HE6 := Lib.hid he; clear he)
          | (refine wpList_storeA (vs' := [.int .i64 p.kind, .int .i64 p.nulls, .int .i64 p.low.kind, .int .i64 p.low.int, .float .f64 p.low.flt, .string p.low.text, .int .i64 p.high.kind, .int .i64 p.high.int, .float .f64 p.high.flt, .string p.high.text]) (Rng.one9 rfl) (BoxAt.new (w := w6) (vs := [.int .i64 0, .int .i64 0, .int .i64 0, .int .i64 0, .float .f64 0, .string ⟨#[]⟩, .int .i64 0, .int .i64 0, .float .f64 0, .string ⟨#[]⟩]) (t := 149) rfl rfl) size_rng rfl rfl (.tmp 11) _ rfl rfl rfl ?_; intro w7 hq1 hq2; have HG7 := Lib.hid hq1; have HE7 := Lib.hid (But.to_ext (HE6.out.alloc _) hq2 HE6.out.size); clear hq1 hq2))
        refine name_worldA (fun u => Ext w5 u ∧ BoxAt u w6.heap.size [.int .i64 p.kind, .int .i64 p.nulls, .int .i64 p.low.kind, .int .i64 p.low.int, .float .f64 p.low.flt, .string p.low.text, .int .i64 p.high.kind, .int .i64 p.high.int, .float .f64 p.high.flt, .string p.high.text]) ⟨HE7.out, HG7.out⟩ ?_
        clear HE6 HE7 HG7
        generalize w6.heap.size = g11 at *
        clear w6 w7
        rintro w7 ⟨he7, hg7⟩
        have HE7 := Lib.hid he7; have HG7 := Lib.hid hg7
        obtain ⟨ka7, -⟩ := (HCA.out.ext (HE5.out.trans he7)).cells
        have kk7 : w7.cell? ⟨w.heap.size + 1, 0, none⟩ = some (.int .i64 k) := by have := (HXc.out.ext (HE5.out.trans he7)).cells.get 0 _ rfl; simpa using this
        clear he7 hg7 ka0 kb0 kk0
        cases b2
        · skip
          go_wp2_with fail
          go_ret
          exact ⟨rfl, HEc.out.trans (HE5.out.trans HE7.out)⟩
        · cases ka
          · skip
            go_wp2_with fail
            go_ret
            exact ⟨rfl, HEc.out.trans (HE5.out.trans HE7.out)⟩
          · skip
            go_wp2_with (first
              | (refine wpList_ldA (.tmp 11) (vs := [.int .i64 p.kind, .int .i64 p.nulls, .int .i64 p.low.kind, .int .i64 p.low.int, .float .f64 p.low.flt, .string p.low.text, .int .i64 p.high.kind, .int .i64 p.high.int, .float .f64 p.high.flt, .string p.high.text]) rfl rfl agg_rng rfl (HG7.out.cells) ?_)
              | (refine wpList_ldA (.tmp 70) (vs := [.int .i64 a.const.kind, .int .i64 a.const.int, .float .f64 a.const.flt, .string a.const.text]) rfl rfl agg_val rfl (HCd.out.ext (HE5.out.trans HE7.out) (HCA.out.lt)) ?_)
              | (go_at_call 105; refine (HM2.out _).mono ?_; rintro ev w8 ⟨rfl, he8⟩))
            go_ret
            exact ⟨rfl, HEc.out.trans (HE5.out.trans (HE7.out.trans he8))⟩
      · cases kb
        · skip
          go_upto_region 11 with fail
          clear HG5 HM1 HCc HC1
          go_upto_region 12 with (first
            | (refine wpList_ldA (.tmp 3) (vs := [.int .i64 zr, .slice ZA cols.length zcap]) rfl rfl agg_zone rfl ((HZc.out.ext HE5.out).cells) ?_)
            | (refine wpList_ldA (.tmp 8) (vs := [.int .i64 b.kind, .int .i64 b.rel, .int .i64 b.col, .int .i64 b.const.kind, .int .i64 b.const.int, .float .f64 b.const.flt, .string b.const.text, .slice B1 b.kids.length d1]) rfl rfl agg_ex rfl ((HCB.out.ext HE5.out).cells) ?_)
            | (go_at_call 104; refine (HC2.out _ (HEc.out.trans HE5.out)).mono ?_; rintro ev w6 ⟨rfl, he⟩; have HE6 := Lib.hid he; clear he)
            | (refine wpList_storeA (vs' := [.int .i64 p.kind, .int .i64 p.nulls, .int .i64 p.low.kind, .int .i64 p.low.int, .float .f64 p.low.flt, .string p.low.text, .int .i64 p.high.kind, .int .i64 p.high.int, .float .f64 p.high.flt, .string p.high.text]) (Rng.one9 rfl) (BoxAt.new (w := w6) (vs := [.int .i64 0, .int .i64 0, .int .i64 0, .int .i64 0, .float .f64 0, .string ⟨#[]⟩, .int .i64 0, .int .i64 0, .float .f64 0, .string ⟨#[]⟩]) (t := 149) rfl rfl) size_rng rfl rfl (.tmp 11) _ rfl rfl rfl ?_; intro w7 hq1 hq2; have HG7 := Lib.hid hq1; have HE7 := Lib.hid (But.to_ext (HE6.out.alloc _) hq2 HE6.out.size); clear hq1 hq2))
          refine name_worldA (fun u => Ext w5 u ∧ BoxAt u w6.heap.size [.int .i64 p.kind, .int .i64 p.nulls, .int .i64 p.low.kind, .int .i64 p.low.int, .float .f64 p.low.flt, .string p.low.text, .int .i64 p.high.kind, .int .i64 p.high.int, .float .f64 p.high.flt, .string p.high.text]) ⟨HE7.out, HG7.out⟩ ?_
          clear HE6 HE7 HG7
          generalize w6.heap.size = g11 at *
          clear w6 w7
          rintro w7 ⟨he7, hg7⟩
          have HE7 := Lib.hid he7; have HG7 := Lib.hid hg7
          obtain ⟨ka7, -⟩ := (HCA.out.ext (HE5.out.trans he7)).cells
          have kk7 : w7.cell? ⟨w.heap.size + 1, 0, none⟩ = some (.int .i64 k) := by have := (HXc.out.ext (HE5.out.trans he7)).cells.get 0 _ rfl; simpa using this
          clear he7 hg7 ka0 kb0 kk0
          cases b2
          · skip
            go_wp2_with fail
            go_ret
            exact ⟨rfl, HEc.out.trans (HE5.out.trans HE7.out)⟩
          · cases ka
            · skip
              go_wp2_with fail
              go_ret
              exact ⟨rfl, HEc.out.trans (HE5.out.trans HE7.out)⟩
            · skip
              go_wp2_with (first
                | (refine wpList_ldA (.tmp 11) (vs := [.int .i64 p.kind, .int .i64 p.nulls, .int .i64 p.low.kind, .int .i64 p.low.int, .float .f64 p.low.flt, .string p.low.text, .int .i64 p.high.kind, .int .i64 p.high.int, .float .f64 p.high.flt, .string p.high.text]) rfl rfl agg_rng rfl (HG7.out.cells) ?_)
                | (refine wpList_ldA (.tmp 70) (vs := [.int .i64 a.const.kind, .int .i64 a.const.int, .float .f64 a.const.flt, .string a.const.text]) rfl rfl agg_val rfl (HCd.out.ext (HE5.out.trans HE7.out) (HCA.out.lt)) ?_)
                | (go_at_call 105; refine (HM2.out _).mono ?_; rintro ev w8 ⟨rfl, he8⟩))
              go_ret
              exact ⟨rfl, HEc.out.trans (HE5.out.trans (HE7.out.trans he8))⟩
        · skip
          go_wp2_with (first
            | (refine wpList_ldA (.tmp 9) (vs := [.int .i64 q.kind, .int .i64 q.nulls, .int .i64 q.low.kind, .int .i64 q.low.int, .float .f64 q.low.flt, .string q.low.text, .int .i64 q.high.kind, .int .i64 q.high.int, .float .f64 q.high.flt, .string q.high.text]) rfl rfl agg_rng rfl (HG5.out.cells) ?_)
            | (refine wpList_ldA (.tmp 51) (vs := [.int .i64 b.const.kind, .int .i64 b.const.int, .float .f64 b.const.flt, .string b.const.text]) rfl rfl agg_val rfl (HCc.out.ext HE5.out (HCB.out.lt)) ?_)
            | (go_at_call 105; refine (HM1.out _).mono ?_; rintro ev w6 ⟨rfl, he6⟩))
          go_ret
          exact ⟨rfl, HEc.out.trans (HE5.out.trans he6)⟩
end Go.Proofs.Ytlcdjaclahhdnaa
