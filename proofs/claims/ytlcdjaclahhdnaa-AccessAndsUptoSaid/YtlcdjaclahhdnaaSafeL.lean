/- The call of the law AccessSafe: true, whatever the rows, the relation and the condition. Printed by wip/tools/gen_safe.py. -/
import Derived.Test.YtlcdjaclahhdnaaSafeP
import Derived.Test.YtlcdjaclahhdnaaW26A
import Derived.Test.YtlcdjaclahhdnaaBulk
namespace Go.Proofs.Ytlcdjaclahhdnaa
open Go.RowKit
set_option linter.unusedSimpArgs false
set_option linter.unusedVariables false
attribute [local irreducible] wpQuiet wpList Code.wp

/-- What 'no' tells. -/
def Great26 (rows : List (List Val)) (ev : Ending) : Prop := ∃ b : Bool, ev = .returned (.bool b) ∧ (b = false → rows.length ≤ 1200 ∧ ∀ r ∈ rows, r.length ≤ 1200)
theorem Great26.get {rows : List (List Val)} {ev : Ending} (h : Great26 rows ev) : ∃ b : Bool, ev = .returned (.bool b) ∧ Hid (b = false → rows.length ≤ 1200 ∧ ∀ r ∈ rows, r.length ≤ 1200) := by
  obtain ⟨b, h1, h2⟩ := h; exact ⟨b, h1, Lib.hid h2⟩
set_option maxHeartbeats 1000000 in
theorem great26_of (l : List Ex) (s : Value) (rows : List (List Val)) (rv : Value) (w : World) (h : ExsIn w s l) (hr : RowsIn w rv rows) :
    Calls Try.prog 42 #[rv, s] w fun ev w' => Great26 rows ev ∧ w = w' := by
  have H := Lib.hid h; have HR := Lib.hid hr
  obtain ⟨_, A, cap, rfl, _⟩ := (⟨h.1, h.2⟩ : l.length ≤ 9223372036854775807 ∧ _)
  obtain ⟨RA, rc, rfl, _⟩ := hr.val
  clear h hr
  have HB := Lib.hid (fun w h => bulk22_of l (.slice A l.length cap) 300 w h (by omega))
  have HB5 := Lib.hid (fun w h => bulk05_of rows (.slice RA rows.length rc) 1200 w h (by omega))
  go_enter Try.func42, Try.ntmps42
  go_wp2_with (go_at_call 55; refine (HB5.out _ HR.out).mono ?_; rintro ev w2 ⟨hh, rfl⟩; obtain ⟨m, rfl, hm1, hm2⟩ := hh.get; by_cases hm3 : m ≤ 1200)
  · have hm4 : ¬ (1200 : Int) < (m : Int) := by omega
    go_wp2_with (go_at_call 54; refine (HB.out _ H.out).mono ?_; rintro ev w2 ⟨hh, rfl⟩; obtain ⟨n, rfl, hn1, hn2⟩ := hh.get)
    go_ret
    exact ⟨⟨_, rfl, fun _ => hm2.out hm3⟩, rfl⟩
  · have hm4 : (1200 : Int) < (m : Int) := by omega
    go_wp2_with fail
    go_ret
    exact ⟨⟨_, rfl, fun h => by simp at h⟩, rfl⟩
theorem mk12 (w : World) : (Instr.makeSlice 50 (.int .i64 12) (.int .i64 12)).run Try.prog w = .ok (.slice (some ⟨w.heap.size, 0, none⟩) 12 12) (w.alloc (.cells #[.slice none 0 0, .slice none 0 0, .slice none 0 0, .slice none 0 0, .slice none 0 0, .slice none 0 0, .slice none 0 0, .slice none 0 0, .slice none 0 0, .slice none 0 0, .slice none 0 0, .slice none 0 0] 59)) := by kernel_rfl
theorem wpList_store1 {P : Program} {w : World} {ops : Array Oper} {rest : List Oper} {o : Oper} {a : Act} {Q : Exit → Act → World → Prop} {t : TypeId} {g f : Nat} {u v : Value} (x y : Operand) (ho : o.op = .store t x y) (hgd : o.guard = none) (hu : u.cells = #[u]) (h1 : u.oneCell' = true) (hc : w.cell? ⟨g, f, none⟩ = some v) (hf : w.frozen? ⟨g, f, none⟩ = false) (hk : (P.info? t).map (·.size) = some 1)
    (hx : a.eval x = .pointer (some ⟨g, f, none⟩)) (hy : a.eval y = u) (h : wpList P ops Q rest (a.put o.dst undef) (w.setCell ⟨g, f, none⟩ u)) : wpList P ops Q (o :: rest) a w :=
  wpList_plain hgd fun K hK => wp_store1 hu h1 hc hf hk x y ho hx hy (hK _ _ h)
/-- A tuple whose row lies anywhere. -/
theorem tup_rows {W : World} {base n rel : Nat} {s q : Value} {row : List Val} (h1 : W.ownsRow base 59 1 s n ((List.replicate n (.slice none 0 0)).set rel q)) (hv : ValsIn W q row) (h4 : row.length ≤ 9223372036854775807) (hn : n ≤ 12) (hr : rel < n) : RowsIn W s (tup n rel row) := by
  have hl : (tup n rel row).length = n := by simp [tup]
  obtain ⟨A, c, rfl, h5, h6, h7, h8⟩ := owns_form h1
  rcases h1.2 with ⟨_, h9⟩ | ⟨g, cap, cur, h9, _, _, h11, _⟩
  · omega
  · simp only [Value.slice.injEq] at h9
    obtain ⟨rfl, _, rfl⟩ := h9
    obtain ⟨-, -, -, h10⟩ := h8 _ rfl
    refine ⟨⟨some ⟨g, 0, none⟩, c, by rw [hl], by rw [hl]; exact h5, (fun h => by cases h), fun _ => ⟨g, 0, rfl, fun i hi => ?_⟩⟩, by rw [hl]; omega, fun r hr' => ?_⟩
    · rw [hl] at hi
      by_cases hir : rel = i
      · subst hir
        refine ⟨q, h10 rel q (by rw [List.getElem?_set_self (by simpa using hi)]), ?_⟩
        have e1 : (tup n rel row)[rel]'(by rw [hl]; exact hi) = row := by simp [tup]
        rw [e1]; exact hv
      · refine ⟨.slice none 0 0, h10 i _ (by rw [List.getElem?_set_ne hir, List.getElem?_replicate, if_pos hi]), ?_⟩
        have e1 : (tup n rel row)[i]'(by rw [hl]; exact hi) = [] := by simp [tup, List.getElem_set_ne hir]
        rw [e1]
        exact ⟨⟨none, 0, rfl, Nat.le_refl _, fun _ => rfl, fun h => absurd rfl h⟩, by simp⟩
    · rcases List.mem_or_eq_of_mem_set hr' with h | h
      · rw [List.eq_of_mem_replicate h]; simp
      · rw [h]; exact h4
theorem safe_holds {W ws : World} {base R : Nat} {e : Ex} {x y q : Value} {row : List Val} (hR : R < 12) (hx : ExsIn ws x [e]) (hg : W.ownsRow base 59 1 y 12 ((List.replicate 12 (.slice none 0 0)).set R q)) (he : Ext W ws) (hv : ValsIn W q row) (hl : row.length ≤ 9223372036854775807) (hh : holds (tup 12 R row) [e] = (false, 0)) :
    Calls Try.prog 30 #[x, y] ws fun ev w' => ev = .returned (.tuple #[.bool false, .int .i64 0]) ∧ Ext ws w' := by
  have h := holds_of [e] x ws y (tup 12 R row) hx (tup_rows (owns_ext hg he) (hv.ext he) hl (by decide) hR)
  rw [hh] at h
  exact h
theorem zzip_length : ∀ (zs : List Zn) (ss : List Value), ss.length = zs.length → (zzip zs ss).length = zs.length * 2
  | [], [], _ => rfl
  | [], _ :: _, h => by simp at h
  | _ :: _, [], h => by simp at h
  | z :: zs, s :: ss, h => by
    have := zzip_length zs ss (by simpa using h)
    simp only [zzip, List.length_cons, this]; omega
theorem zzip_get : ∀ (zs : List Zn) (ss : List Value) (i : Nat) (z : Zn) (s : Value), zs[i]? = some z → ss[i]? = some s → (zzip zs ss)[i * 2]? = some (.int .i64 (z.rows : Int)) ∧ (zzip zs ss)[i * 2 + 1]? = some s
  | [], _, i, z, s, h, _ => by simp at h
  | _ :: _, [], i, z, s, _, h => by simp at h
  | a :: zs, b :: ss, 0, z, s, h, k => by
    simp only [List.getElem?_cons_zero, Option.some.injEq] at h k
    subst h k
    exact ⟨rfl, rfl⟩
  | a :: zs, b :: ss, i + 1, z, s, h, k => by
    have := zzip_get zs ss i z s (by simpa using h) (by simpa using k)
    rw [show (i + 1) * 2 = i * 2 + 2 by omega]
    exact this
/-- The i-th zone that lies in a row of the call's own. -/
theorem OwnZ.at_ {w : World} {base : Nat} {v : Value} {zs : List Zn} (h : OwnZ 84 149 w base v zs) (i : Nat) (z : Zn) (hz : zs[i]? = some z) (ok : ∀ g ∈ z.cols, g.Ok) (hl : z.cols.length ≤ 1000000) :
    ∃ g c s, v = .slice (some ⟨g, 0, none⟩) zs.length c ∧ At w g (0 + i * 2) [.int .i64 (z.rows : Int), s] ∧ RngsIn w s z.cols ∧ g < w.heap.size := by
  obtain ⟨ss, h1, h2, h3⟩ := h
  have hi := (List.getElem?_eq_some_iff.1 hz).1
  obtain ⟨s, hs⟩ : ∃ s, ss[i]? = some s := ⟨_, List.getElem?_eq_getElem (by omega)⟩
  rcases h2.2 with ⟨_, h0⟩ | ⟨g, c, cur, rfl, _, hh, _⟩
  · omega
  · have hc := owns_cells h2
    obtain ⟨k1, k2⟩ := zzip_get zs ss i z s hz hs
    have e1 := hc.get _ _ k1
    have e2 := hc.get _ _ k2
    exact ⟨g, c, s, rfl, ⟨e1, by rw [show 0 + i * 2 + 1 = 0 + (i * 2 + 1) by omega]; exact e2, trivial⟩, RngsIn.of_own (h3 i z s hz hs) ok hl, (Array.getElem?_eq_some_iff.1 hh).1⟩
theorem mem_chunk {rows : List (List Val)} {i k : Nat} (h1 : i * 16 ≤ k) (h2 : k < (i + 1) * 16) (h3 : k < rows.length) : rows[k] ∈ chunkR rows i := by
  have h4 : (chunkR rows i)[k - i * 16]? = some rows[k] := by
    unfold chunkR
    rw [List.getElem?_take, if_pos (by omega), List.getElem?_drop, show i * 16 + (k - i * 16) = k by omega, List.getElem?_eq_getElem h3]
  exact List.mem_of_getElem? h4

set_option maxRecDepth 100000 in
set_option maxHeartbeats 20000000 in
theorem safe_walk (rows : List (List Val)) (rv : Value) (rel : Int) (e : Ex) (se : Value) (w : World) (hrows : RowsIn w rv rows) (hine : Ex.In w e se) :
    Calls Try.prog 11 #[rv, .int .i64 rel, .agg (e.cells se).toArray] w fun ev w' => ev = .returned (.bool true) ∧ Ext w w' := by
  obtain ⟨RA, rc, rfl, -⟩ := hrows.val
  obtain ⟨-, EA, ecap, rfl, -⟩ := hine.mk_inv.2.2.2.2
  have HR : Hid (∀ u, Ext w u → RowsIn u (.slice RA rows.length rc) rows) := Lib.hid fun u h => hrows.ext h
  have HI : Hid (∀ u, Ext w u → Ex.In u e (.slice EA e.kids.length ecap)) := Lib.hid fun u h => Ex.In.ext h _ _ hine
  have HOKR := Lib.hid (rows_ok hrows)
  have HX1 : Hid (∀ u, Ext w u → ExsIn (u.alloc (.cells (e.cells (.slice EA e.kids.length ecap)).toArray 27)) (.slice (some ⟨u.heap.size, 0, none⟩) 1 1) [e]) := Lib.hid fun u h => ExsIn.new (l := [e]) (ss := [.slice EA e.kids.length ecap]) (n := 1) (cap := 1) rfl rfl (by decide) (by decide) (by simp [exsCells]) (fun i hi hj => by
    match i, hi with
    | 0, _ => exact Ex.In.ext h _ _ hine)
  have HB0 := Lib.hid (BoxAt.new (w := w) (vs := e.cells (.slice EA e.kids.length ecap)) (t := 27) rfl rfl)
  have HE0 := Lib.hid ((Ext.refl w).alloc (.cells (e.cells (.slice EA e.kids.length ecap)).toArray 27))
  clear hrows hine
  unfold Ex.cells exCells at HX1 HB0 HE0 ⊢
  have hG : ∀ u b, ({ tmps := #[], defers := [] } : Act) = { tmps := #[], defers := [] } ∨ (u : World) = u ∧ (b : Bool) = b := fun _ _ => .inl rfl
  clear hG
  go_enter Try.func11, Try.ntmps11
  go_upto_region 3 with (go_at_call 43; refine (works26 _).mono ?_; rintro ev w2 ⟨rfl, he2⟩)
  refine name_worldA (fun u => Ext w u ∧ BoxAt u w.heap.size [.int .i64 e.kind, .int .i64 e.rel, .int .i64 e.col, .int .i64 e.const.kind, .int .i64 e.const.int, .float .f64 e.const.flt, .string e.const.text, (.slice EA e.kids.length ecap)]) ⟨HE0.out.trans he2, HB0.out.ext he2⟩ ?_
  clear HB0 HE0 he2 w2
  rintro U ⟨hE, hb⟩
  have HE := Lib.hid hE; have HB := Lib.hid hb
  clear hE hb
  go_upto_region 5 with (first
    | (refine wpList_ldA (.tmp 5) (vs := [.int .i64 e.kind, .int .i64 e.rel, .int .i64 e.col, .int .i64 e.const.kind, .int .i64 e.const.int, .float .f64 e.const.flt, .string e.const.text, (.slice EA e.kids.length ecap)]) rfl rfl agg_ex rfl (HB.out.cells) ?_)
    | (go_at_call 42; refine (great26_of [e] _ rows _ _ (HX1.out _ HE.out) (HR.out _ (HE.out.alloc _))).mono ?_; rintro ev w2 ⟨hh, rfl⟩; obtain ⟨b1, rfl, hb1⟩ := hh.get; (by_cases hr0 : rel < 0); (have hr0' : decide (rel < 0) = true := by simpa using hr0); rotate_left; (have hr0' : decide (rel < 0) = false := by simpa using hr0); (by_cases hr1 : 11 < rel); (have hr1' : decide (11 < rel) = true := by simpa using hr1); rotate_left; (have hr1' : decide (11 < rel) = false := by simpa using hr1); (all_goals cases b1)))
  all_goals first
    | (go_ret; exact ⟨rfl, HE.out.alloc _⟩)
    | skip
  have HL := Lib.hid (hb1.out (by simp))
  obtain ⟨R, hR⟩ : ∃ R : Nat, rel = (R : Int) := ⟨rel.toNat, by omega⟩
  have hR12 : R < 12 := by omega
  clear hb1 hr0' hr1'
  subst hR
  clear hr0 hr1
  have hrl := HL.out.1
  refine name_worldA (fun u => Ext w u ∧ BoxAt u w.heap.size [.int .i64 e.kind, .int .i64 e.rel, .int .i64 e.col, .int .i64 e.const.kind, .int .i64 e.const.int, .float .f64 e.const.flt, .string e.const.text, (.slice EA e.kids.length ecap)]) ⟨HE.out.alloc _, HB.out.ext ((Ext.refl _).alloc _)⟩ ?_
  clear HE HB
  rintro U2 ⟨hE, hb⟩
  have HE := Lib.hid hE; have HB := Lib.hid hb
  clear hE hb
  go_upto_block 0 with (go_at_call 44; refine (zones_of rows _ 40 40 _ (HR.out _ HE.out) (by omega) (by decide)).mono ?_; rintro ev w2 ⟨v, rfl, hz, he2⟩; have HZ := Lib.hid hz; have HE2 := Lib.hid he2; clear he2; obtain ⟨A9, c9, hv9⟩ := hz.shape; (have hlen9 : (zonesOf rows 40).length = (rows.length + 15) / 16 := by simp [zonesOf]); rw [hlen9] at hv9; subst hv9; clear hz)
  have hC : (rows.length + 15) / 16 ≤ 100 := by omega
  have HBX := Lib.hid (HB.out.ext HE2.out)
  have HEW := Lib.hid (HE.out.trans HE2.out)
  have HZA : Hid (∀ i, i < (rows.length + 15) / 16 → ∃ g s, A9 = some ⟨g, 0, none⟩ ∧ (∀ u, Ext w2 u → At u g (0 + i * 2) [.int .i64 ((chunkR rows i).length : Int), s]) ∧ ∀ u, Ext w2 u → RngsIn u s (colsR (chunkR rows i) 40)) := Lib.hid fun i hi => by
    have hzi : (zonesOf rows 40)[i]? = some (znOf rows 40 i) := by unfold zonesOf; rw [List.getElem?_map, List.getElem?_range hi]; rfl
    obtain ⟨g, c, s, h1, h2, h3, h4⟩ := HZ.out.at_ i (znOf rows 40 i) hzi (colsR_ok (fun r hr => HOKR.out r (List.mem_of_mem_drop (List.mem_of_mem_take hr))) 40) (by show (colsR (chunkR rows i) 40).length ≤ _; rw [colsR_length]; decide)
    simp only [Value.slice.injEq] at h1
    obtain ⟨rfl, -, -⟩ := h1
    exact ⟨g, s, rfl, fun u h => h2.ext h h4, fun u h => h3.ext h⟩
  clear HE HB HZ HE2
  go_wp2_with fail
  go_loopw [30] (fun y wr => ∃ i : Nat, y = .int .i64 (i : Int) ∧ i ≤ (rows.length + 15) / 16 ∧ Ext w2 wr) (fun y _ => (rows.length + 15) / 16 - (intOf y).toNat)
  case atStart => exact ⟨0, rfl, by omega, Ext.refl _⟩
  case round =>
    rename_i hrel
    rename World => wo
    obtain ⟨i, rfl, hi, hEo⟩ := hrel
    have HEO := Lib.hid hEo
    by_cases hlt : i < (rows.length + 15) / 16
    · have hlt' : (i : Int) < (((rows.length + 15) / 16 : Nat) : Int) := by omega
      have hw : wrap64 ((i : Int) + 1) = (i : Int) + 1 := by unfold wrap64; omega
      obtain ⟨g, s, rfl, hat, hrg⟩ := HZA.out i hlt
      have HAT := Lib.hid (hat wo hEo)
      obtain ⟨⟨SA, sc, rfl, -⟩, -, -⟩ := hrg wo hEo
      rw [colsR_length] at *
      have HMA : Hid (∀ u, Ext w2 u → Calls Try.prog 47 #[.agg #[.int .i64 ((chunkR rows i).length : Int), .slice SA 40 sc], .int .i64 (R : Int), .agg #[.int .i64 e.kind, .int .i64 e.rel, .int .i64 e.col, .int .i64 e.const.kind, .int .i64 e.const.int, .float .f64 e.const.flt, .string e.const.text, (.slice EA e.kids.length ecap)]] u fun ev w' => ev = .returned (.bool (e.may ((chunkR rows i).length : Int) (colsR (chunkR rows i) 40) (R : Int))) ∧ Ext u w') := Lib.hid fun u h => may_of _ _ _ _ e _ u (hrg u h) (HI.out u (HEW.out.trans h))
      have HSAFE : Hid (e.may ((chunkR rows i).length : Int) (colsR (chunkR rows i) 40) (R : Int) = false → ∀ k (hk : k < rows.length), i * 16 ≤ k → k < (i + 1) * 16 → holds (tup 12 R rows[k]) [e] = (false, 0)) := Lib.hid fun h k hk h1 h2 => may_safe (chunkR rows i) (fun r hr => HOKR.out r (List.mem_of_mem_drop (List.mem_of_mem_take hr))) R hR12 e h rows[k] (mem_chunk h1 h2 hk)
      have HBW := Lib.hid (HBX.out.ext hEo)
      clear hat hrg hEo
      generalize (chunkR rows i).length = cl at *
      generalize e.may (cl : Int) (colsR (chunkR rows i) 40) (R : Int) = mb at *
      have HZB := Lib.hid (BoxAt.new (w := wo) (vs := [.int .i64 0, .slice none 0 0]) (t := 84) rfl rfl)
      have h16 : wrap64 ((i : Int) * 16) = (i : Int) * 16 := by unfold wrap64; omega
      have h17 : wrap64 (((i : Int) + 1) * 16) = ((i : Int) + 1) * 16 := by unfold wrap64; omega
      cases mb
      · have HSF := Lib.hid (HSAFE.out rfl)
        clear HSAFE
        go_upto_block 2 with (first
          | (refine wpList_ixS (.tmp 28) _ (i := i) rfl rfl Try.underlying76 size_zone rfl rfl hlt ?_)
          | (refine wpList_ldA (.tmp 33) (vs := [.int .i64 (cl : Int), .slice SA 40 sc]) rfl rfl agg_zone rfl (HAT.out) ?_)
          | (refine wpList_storeA (vs' := [.int .i64 (cl : Int), .slice SA 40 sc]) (Rng.one9 rfl) (HZB.out) size_zone rfl rfl (.tmp 8) _ rfl rfl rfl ?_; intro w4 hq1 hq2; have HZ4 := Lib.hid hq1; have HE4 := Lib.hid (But.to_ext ((Ext.refl wo).alloc (.cells #[.int .i64 0, .slice none 0 0] 84)) hq2 (Nat.le_refl _)); clear hq1 hq2)
          | (refine wpList_ldA (.tmp 8) (vs := [.int .i64 (cl : Int), .slice SA 40 sc]) rfl rfl agg_zone rfl (HZ4.out.cells) ?_)
          | (refine wpList_ldA (.tmp 5) (vs := [.int .i64 e.kind, .int .i64 e.rel, .int .i64 e.col, .int .i64 e.const.kind, .int .i64 e.const.int, .float .f64 e.const.flt, .string e.const.text, (.slice EA e.kids.length ecap)]) rfl rfl agg_ex rfl ((HBW.out.ext HE4.out).cells) ?_)
          | (go_at_call 47; refine (HMA.out _ (HEO.out.trans HE4.out)).mono ?_; rintro ev w5 ⟨rfl, he5⟩; have HE5 := Lib.hid (HE4.out.trans he5); clear he5))
        have HEX := Lib.hid (HEW.out.trans (HEO.out.trans HE5.out))
        have HB5 := Lib.hid (HBW.out.ext HE5.out)
        clear HZB HMA HZ4 HE4 HAT HBW
        go_wp2_with fail
        go_loopw [9] (fun y wr => ∃ k : Nat, y = .int .i64 (k : Int) ∧ i * 16 ≤ k ∧ k ≤ (i + 1) * 16 ∧ Ext w5 wr) (fun y _ => (i + 1) * 16 - (intOf y).toNat)
        case atStart => exact ⟨i * 16, by simp, by omega, by omega, Ext.refl _⟩
        case round =>
          rename_i hrel
          obtain ⟨k, rfl, hk1, hk2, hEk⟩ := hrel
          have HEK := Lib.hid hEk
          by_cases hkN : k < rows.length
          · have hkN' : (k : Int) < (rows.length : Int) := by omega
            by_cases hk3 : k < (i + 1) * 16
            · have hk3' : (k : Int) < ((i : Int) + 1) * 16 := by omega
              have hk9 : (k : Int) + 1 < 2000 := by omega
              obtain ⟨g2, o2, B, mm, cb, rfl, -, hmr, hc, hv⟩ := (HR.out wr (HEX.out.trans hEk)).at_ k hkN
              have HC : Hid (∀ u, Ext wr u → u.cell? ⟨g2, o2 + k, none⟩ = some (.slice B mm cb)) := Lib.hid fun u h => (h.cell (cell_lt hc)).trans hc
              have HV := Lib.hid hv
              have HLR : Hid (rows[k].length ≤ 9223372036854775807) := Lib.hid (by have := HL.out.2 rows[k] (List.getElem_mem hkN); omega)
              have HHL := Lib.hid (HSF.out k hkN hk1 hk3)
              have hmk := mk12 wr
              have hcA : (wr.alloc (.cells #[.slice none 0 0, .slice none 0 0, .slice none 0 0, .slice none 0 0, .slice none 0 0, .slice none 0 0, .slice none 0 0, .slice none 0 0, .slice none 0 0, .slice none 0 0, .slice none 0 0, .slice none 0 0] 59)).cell? ⟨g2, o2 + k, none⟩ = some (.slice B mm cb) := HC.out _ ((Ext.refl _).alloc _)
              clear hc hv hmr hEk
              generalize rows[k] = row at *
              go_upto_region 14 with (first
                | (refine wpList_ixS (.tmp 57) _ (i := k) rfl rfl Try.underlying50 size_slice59 rfl rfl hkN ?_)
                | (refine wpList_ixS (.tmp 55) _ (i := R) rfl rfl Try.underlying50 size_slice59 rfl rfl hR12 ?_))
              refine name_worldA (fun u => u.ownsRow w.heap.size 59 1 (.slice (some ⟨wr.heap.size, 0, none⟩) 12 12) 12 ((List.replicate 12 (.slice none 0 0)).set R (.slice B mm cb)) ∧ Ext wr u) ⟨⟨by simp, .inr ⟨wr.heap.size, 12, _, rfl, (HEX.out.trans HEK.out).size, heap_alloc_new _ _, by decide, by decide, by simp, by simp [List.take_of_length_le]⟩⟩, (Ext.refl wr).alloc _⟩ ?_
              clear hmk hcA HC
              rintro ws ⟨hgs, hxs⟩
              have HXS := Lib.hid hxs
              have HHO := Lib.hid (safe_holds hR12 (HX1.out ws (HEX.out.trans (HEK.out.trans HXS.out))) hgs ((Ext.refl ws).alloc _) (HV.out.ext HXS.out) HLR.out HHL.out)
              clear hgs hxs HV HLR HHL
              have HK := Lib.hid (And.intro hk1 hk3)
              have HI9 := Lib.hid hlt
              clear hk1 hk2 hk3 hk3' hkN hkN' hi hlt hlt' hw h16 h17 hC hlen9 hrl
              go_wp2_with (first
                | (refine wpList_ldA (.tmp 5) (vs := [.int .i64 e.kind, .int .i64 e.rel, .int .i64 e.col, .int .i64 e.const.kind, .int .i64 e.const.int, .float .f64 e.const.flt, .string e.const.text, (.slice EA e.kids.length ecap)]) rfl rfl agg_ex rfl ((HB5.out.ext (HEK.out.trans HXS.out)).cells) ?_)
                | (go_at_call 30; refine HHO.out.mono ?_; rintro ev w9 ⟨rfl, he9⟩))
              have hk1 := HK.out.1
              have hk3 := HK.out.2
              exact ⟨⟨k + 1, by simp, by omega, by omega, HEK.out.trans ((HXS.out.alloc _).trans he9)⟩, by simp [intOf] <;> omega⟩
            · have hk3' : ¬ (k : Int) < ((i : Int) + 1) * 16 := by omega
              go_wp2_with fail
              exact ⟨⟨i + 1, by simp, by omega, HEO.out.trans (HE5.out.trans hEk)⟩, by simp [intOf] <;> omega⟩
          · have hkN' : ¬ (k : Int) < (rows.length : Int) := by omega
            go_wp2_with fail
            exact ⟨⟨i + 1, by simp, by omega, HEO.out.trans (HE5.out.trans hEk)⟩, by simp [intOf] <;> omega⟩
      · clear HSAFE
        go_wp2_with (first
          | (refine wpList_ixS (.tmp 28) _ (i := i) rfl rfl Try.underlying76 size_zone rfl rfl hlt ?_)
          | (refine wpList_ldA (.tmp 33) (vs := [.int .i64 (cl : Int), .slice SA 40 sc]) rfl rfl agg_zone rfl (HAT.out) ?_)
          | (refine wpList_storeA (vs' := [.int .i64 (cl : Int), .slice SA 40 sc]) (Rng.one9 rfl) (HZB.out) size_zone rfl rfl (.tmp 8) _ rfl rfl rfl ?_; intro w4 hq1 hq2; have HZ4 := Lib.hid hq1; have HE4 := Lib.hid (But.to_ext ((Ext.refl wo).alloc (.cells #[.int .i64 0, .slice none 0 0] 84)) hq2 (Nat.le_refl _)); clear hq1 hq2)
          | (refine wpList_ldA (.tmp 8) (vs := [.int .i64 (cl : Int), .slice SA 40 sc]) rfl rfl agg_zone rfl (HZ4.out.cells) ?_)
          | (refine wpList_ldA (.tmp 5) (vs := [.int .i64 e.kind, .int .i64 e.rel, .int .i64 e.col, .int .i64 e.const.kind, .int .i64 e.const.int, .float .f64 e.const.flt, .string e.const.text, (.slice EA e.kids.length ecap)]) rfl rfl agg_ex rfl ((HBW.out.ext HE4.out).cells) ?_)
          | (go_at_call 47; refine (HMA.out _ (HEO.out.trans HE4.out)).mono ?_; rintro ev w5 ⟨rfl, he5⟩; have HE5 := Lib.hid (HE4.out.trans he5); clear he5))
        exact ⟨⟨i + 1, by simp, by omega, HEO.out.trans HE5.out⟩, by simp [intOf] <;> omega⟩
    · have hlt' : ¬ (i : Int) < (((rows.length + 15) / 16 : Nat) : Int) := by omega
      go_wp2_with fail
      go_ret
      exact ⟨rfl, HEW.out.trans HEO.out⟩
end Go.Proofs.Ytlcdjaclahhdnaa
