/- The calls of access.column, access.compared. Printed by wip/tools/gen_col.py. -/
import Derived.Test.YtlcdjaclahhdnaaZoneA
import Derived.Test.YtlcdjaclahhdnaaHolds
namespace Go.Proofs.Ytlcdjaclahhdnaa
open Go.RowKit
set_option linter.unusedSimpArgs false
set_option linter.unusedVariables false
attribute [local irreducible] wpQuiet wpList Code.wp

/-- A slice that holds ranges. -/
structure RngsIn (w : World) (s : Value) (l : List Rng) : Prop where
  val : ∃ A c, s = .slice A l.length c ∧ (l ≠ [] → ∃ g o, A = some ⟨g, o, none⟩ ∧ At w g o (rgc l))
  ok : ∀ g ∈ l, g.Ok
  len : l.length ≤ 1000000
theorem rgc_length : ∀ l : List Rng, (rgc l).length = l.length * 10
  | [] => rfl
  | g :: l => by
    have := rgc_length l
    have h10 : g.cells.length = 10 := rfl
    simp only [rgc, List.flatMap_cons, List.length_append, List.length_cons] at *
    omega
theorem rgc_get : ∀ (l : List Rng) (i : Nat) (hi : i < l.length) (j : Nat) (u : Value), (l[i].cells)[j]? = some u → (rgc l)[i * 10 + j]? = some u
  | [], i, hi, _, _, _ => by simp at hi
  | g :: l, 0, _, j, u, hu => by
    have hj := (List.getElem?_eq_some_iff.1 hu).1
    simp only [rgc, List.flatMap_cons, Nat.zero_mul, Nat.zero_add]
    rw [List.getElem?_append_left (by simpa using hj)]
    simpa using hu
  | g :: l, i + 1, hi, j, u, hu => by
    have := rgc_get l i (by simpa using hi) j u (by simpa using hu)
    have h10 : g.cells.length = 10 := rfl
    simp only [rgc, List.flatMap_cons] at *
    rw [List.getElem?_append_right (by omega), show (i + 1) * 10 + j - g.cells.length = i * 10 + j by omega]
    exact this
theorem RngsIn.ext {w w' : World} {s : Value} {l : List Rng} (he : Ext w w') (h : RngsIn w s l) : RngsIn w' s l := by
  obtain ⟨⟨A, c, h1, h2⟩, ok, hl⟩ := h
  refine ⟨⟨A, c, h1, fun hn => ?_⟩, ok, hl⟩
  obtain ⟨g, o, h3, h4⟩ := h2 hn
  refine ⟨g, o, h3, h4.ext he (at_lt h4 fun e => hn ?_)⟩
  have := rgc_length l
  rw [e] at this
  exact List.eq_nil_of_length_eq_zero (by simp at this; omega)
theorem RngsIn.at_ {w : World} {A : Option Addr} {n c : Nat} {l : List Rng} (h : RngsIn w (.slice A n c) l) (i : Nat) (hi : i < l.length) : ∃ g o, A = some ⟨g, o, none⟩ ∧ At w g (o + i * 10) l[i].cells ∧ g < w.heap.size := by
  obtain ⟨⟨A', c', h1, h2⟩, ok, hl⟩ := h
  have hn : l ≠ [] := fun e => by subst e; simp at hi
  obtain ⟨g, o, rfl, h4⟩ := h2 hn
  simp only [Value.slice.injEq] at h1
  obtain ⟨rfl, rfl, rfl⟩ := h1
  refine ⟨g, o, rfl, At.of_get fun j u hu => ?_, at_lt h4 fun e => ?_⟩
  · have := h4.get _ u (rgc_get l i hi j u hu)
    rwa [Nat.add_assoc]
  · have := rgc_length l
    rw [e] at this
    simp at this; omega
theorem RngsIn.of_own {w : World} {base : Nat} {v : Value} {l : List Rng} (h : OwnR w base v l) (ok : ∀ g ∈ l, g.Ok) (hl : l.length ≤ 1000000) : RngsIn w v l := by
  obtain ⟨A, c, rfl, h1, h2, h3, h4⟩ := owns_form h
  refine ⟨⟨A, c, rfl, fun hn => ?_⟩, ok, hl⟩
  cases A with
  | none => exact absurd (List.eq_nil_of_length_eq_zero (h3 rfl)) hn
  | some ad =>
    obtain ⟨h5, h6, h7, h8⟩ := h4 ad rfl
    obtain ⟨g, o, s⟩ := ad
    simp only at h5; subst h5
    exact ⟨g, o, rfl, At.of_get fun j u hu => h8 j u hu⟩
/-- What a zone knows of a column reference. -/
def colE (cols : List Rng) (rel : Int) (e : Ex) : Option Rng := if e.kind = 1 then (if e.rel = rel then cols[e.col.toNat]? else none) else none
/-- May a sign be true of a range's values and a value? -/
def cmpd (k : Int) (g : Rng) (v : Val) (turned : Bool) : Bool :=
  if v.kind = 0 then false else if g.kind = 0 then false else if g.kind ≠ v.kind then true
  else if k = 7 then (decide (g.low.cmp v < 1) && decide (-1 < g.high.cmp v))
  else if k = 8 then (if turned = true then decide (0 < g.high.cmp v) else decide (g.low.cmp v < 0))
  else (if turned = true then decide (-1 < g.high.cmp v) else decide (g.low.cmp v < 1))

set_option maxRecDepth 100000 in
set_option maxHeartbeats 4000000 in
theorem columnZ_of (zr rel : Int) (cols : List Rng) (zs : Value) (e : Ex) (es : Value) (w : World) (hz : RngsIn w zs cols) (he : Ex.In w e es) (hc : 0 ≤ e.col) :
    Calls Try.prog 104 #[.agg #[.int .i64 zr, zs], .int .i64 rel, .agg (e.cells es).toArray] w fun ev w' => ev = .returned (.tuple #[.agg ((colE cols rel e).getD Rng.zero).cells.toArray, .bool (colE cols rel e).isSome]) ∧ Ext w w' := by
  obtain ⟨-, EA, ecap, rfl, -⟩ := he.mk_inv.2.2.2.2
  obtain ⟨ZA, zcap, rfl, -⟩ := hz.val
  obtain ⟨n, hn⟩ : ∃ n : Nat, e.col = (n : Int) := ⟨e.col.toNat, by omega⟩
  have HZ := Lib.hid hz
  clear hz he hc
  have hcol : colE cols rel e = if e.kind = 1 then (if e.rel = rel then cols[n]? else none) else none := by unfold colE; rw [hn]; rfl
  unfold Ex.cells exCells
  rw [hcol, hn]
  clear hcol hn
  generalize hk : e.kind = k
  generalize hr : e.rel = r
  generalize hl : e.kids.length = kl
  generalize e.const = cv
  clear hk hr hl
  have HB2 := Lib.hid (BoxAt.new (w := ((w.alloc (.cells [.int .i64 zr, .slice ZA cols.length zcap].toArray 84)).alloc (.cells [.int .i64 k, .int .i64 r, .int .i64 (n : Int), .int .i64 cv.kind, .int .i64 cv.int, .float .f64 cv.flt, .string cv.text, .slice EA kl ecap].toArray 27))) (g := w.heap.size + 2) (vs := [.int .i64 0, .int .i64 0, .int .i64 0, .int .i64 0, .float .f64 0, .string ⟨#[]⟩, .int .i64 0, .int .i64 0, .float .f64 0, .string ⟨#[]⟩]) (t := 149) (by simp) rfl)
  have HE := Lib.hid ((((Ext.refl w).alloc (.cells [.int .i64 zr, .slice ZA cols.length zcap].toArray 84)).alloc (.cells [.int .i64 k, .int .i64 r, .int .i64 (n : Int), .int .i64 cv.kind, .int .i64 cv.int, .float .f64 cv.flt, .string cv.text, .slice EA kl ecap].toArray 27)).alloc (.cells [.int .i64 0, .int .i64 0, .int .i64 0, .int .i64 0, .float .f64 0, .string ⟨#[]⟩, .int .i64 0, .int .i64 0, .float .f64 0, .string ⟨#[]⟩].toArray 149))
  by_cases h1 : k = 1
  · have q1 : (k != 1) = false := by simp [h1]
    rw [if_pos h1]
    clear h1
    by_cases h2 : r = rel
    · have q2 : (r != rel) = false := by simp [h2]
      rw [if_pos h2]
      clear h2
      by_cases h3 : n < cols.length
      · have q3 : decide (cols.length ≤ n) = false := by simp; omega
        obtain ⟨g, o, rfl, hat, hg⟩ := HZ.out.at_ n h3
        have HAT : Hid (∀ u, Ext w u → At u g (o + n * 10) cols[n].cells) := Lib.hid fun u h => hat.ext h hg
        rw [List.getElem?_eq_getElem h3]
        have hone := Rng.one cols[n]
        clear hat
        unfold Rng.cells at HAT hone ⊢
        simp only [Option.getD_some, Option.isSome_some]
        generalize cols[n] = q at *
        go_enter Try.func104, Try.ntmps104
        go_wp2_with (first
          | (refine wpList_ixS (.tmp 30) _ (i := n) rfl rfl Try.underlying82 size_rng rfl rfl h3 ?_)
          | (refine wpList_ldA (.tmp 30) (vs := [.int .i64 q.kind, .int .i64 q.nulls, .int .i64 q.low.kind, .int .i64 q.low.int, .float .f64 q.low.flt, .string q.low.text, .int .i64 q.high.kind, .int .i64 q.high.int, .float .f64 q.high.flt, .string q.high.text]) rfl rfl agg_rng rfl (HAT.out _ HE.out) ?_)
          | (refine wpList_storeA (vs' := [.int .i64 q.kind, .int .i64 q.nulls, .int .i64 q.low.kind, .int .i64 q.low.int, .float .f64 q.low.flt, .string q.low.text, .int .i64 q.high.kind, .int .i64 q.high.int, .float .f64 q.high.flt, .string q.high.text]) (hone) (HB2.out) size_rng rfl rfl (.tmp 6) _ rfl rfl rfl ?_; intro w9 hq1 hq2))
        exact back_ct rfl [.int .i64 q.kind, .int .i64 q.nulls, .int .i64 q.low.kind, .int .i64 q.low.int, .float .f64 q.low.flt, .string q.low.text, .int .i64 q.high.kind, .int .i64 q.high.int, .float .f64 q.high.flt, .string q.high.text] (.bool true) rfl rfl agg_rng rfl hq1.cells ⟨rfl, But.to_ext HE.out hq2 (by omega)⟩
      · have q3 : decide (cols.length ≤ n) = true := by simp; omega
        rw [List.getElem?_eq_none (by omega)]
        clear h3
        go_enter Try.func104, Try.ntmps104
        go_wp2_with (refine wpList_storeA (vs' := [.int .i64 0, .int .i64 0, .int .i64 0, .int .i64 0, .float .f64 0, .string ⟨#[]⟩, .int .i64 0, .int .i64 0, .float .f64 0, .string ⟨#[]⟩]) (Rng.one9 rfl) (HB2.out) size_rng rfl rfl (.tmp 6) _ rfl rfl rfl ?_; intro w9 hq1 hq2)
        exact back_ct rfl [.int .i64 0, .int .i64 0, .int .i64 0, .int .i64 0, .float .f64 0, .string ⟨#[]⟩, .int .i64 0, .int .i64 0, .float .f64 0, .string ⟨#[]⟩] (.bool false) rfl rfl agg_rng rfl hq1.cells ⟨rfl, But.to_ext HE.out hq2 (by omega)⟩
    · have q2 : (r != rel) = true := by simpa using h2
      rw [if_neg h2]
      clear h2
      go_enter Try.func104, Try.ntmps104
      go_wp2_with (refine wpList_storeA (vs' := [.int .i64 0, .int .i64 0, .int .i64 0, .int .i64 0, .float .f64 0, .string ⟨#[]⟩, .int .i64 0, .int .i64 0, .float .f64 0, .string ⟨#[]⟩]) (Rng.one9 rfl) (HB2.out) size_rng rfl rfl (.tmp 6) _ rfl rfl rfl ?_; intro w9 hq1 hq2)
      exact back_ct rfl [.int .i64 0, .int .i64 0, .int .i64 0, .int .i64 0, .float .f64 0, .string ⟨#[]⟩, .int .i64 0, .int .i64 0, .float .f64 0, .string ⟨#[]⟩] (.bool false) rfl rfl agg_rng rfl hq1.cells ⟨rfl, But.to_ext HE.out hq2 (by omega)⟩
  · have q1 : (k != 1) = true := by simpa using h1
    rw [if_neg h1]
    clear h1
    go_enter Try.func104, Try.ntmps104
    go_wp2_with (refine wpList_storeA (vs' := [.int .i64 0, .int .i64 0, .int .i64 0, .int .i64 0, .float .f64 0, .string ⟨#[]⟩, .int .i64 0, .int .i64 0, .float .f64 0, .string ⟨#[]⟩]) (Rng.one9 rfl) (HB2.out) size_rng rfl rfl (.tmp 6) _ rfl rfl rfl ?_; intro w9 hq1 hq2)
    exact back_ct rfl [.int .i64 0, .int .i64 0, .int .i64 0, .int .i64 0, .float .f64 0, .string ⟨#[]⟩, .int .i64 0, .int .i64 0, .float .f64 0, .string ⟨#[]⟩] (.bool false) rfl rfl agg_rng rfl hq1.cells ⟨rfl, But.to_ext HE.out hq2 (by omega)⟩

set_option maxRecDepth 100000 in
set_option maxHeartbeats 1000000 in
theorem clos_low (g : Rng) (v : Val) (c : Int) (p q : Nat) (w : World) (hg : g.Ok) (hv : v.Ok) (h0 : At w p 0 g.cells) (h1 : At w q 0 [.int .i64 v.kind, .int .i64 v.int, .float .f64 v.flt, .string v.text]) :
    Calls Try.prog 145 #[.int .i64 c, .pointer (some ⟨p, 0, none⟩), .pointer (some ⟨q, 0, none⟩)] w fun ev w' => ev = .returned (.bool (decide (g.low.cmp v < c))) ∧ Ext w w' := by
  have HV := Lib.hid h1
  have HG : Hid (At w p 2 [.int .i64 g.low.kind, .int .i64 g.low.int, .float .f64 g.low.flt, .string g.low.text]) := Lib.hid (by
    unfold Rng.cells at h0
    obtain ⟨a0, a1, a2, a3, a4, a5, a6, a7, a8, a9, -⟩ := h0
    exact ⟨a2, a3, a4, a5, trivial⟩)
  have HC := Lib.hid (fun w => cmp_of g.low v w hg.low.flt hv.flt)
  clear h0 h1 hg hv
  generalize g.low.cmp v = z at *
  go_enter Try.func145, Try.ntmps145
  go_wp2_with (first
    | (refine wpList_ldA (.tmp 5) (vs := [.int .i64 g.low.kind, .int .i64 g.low.int, .float .f64 g.low.flt, .string g.low.text]) rfl rfl agg_val rfl (HG.out) ?_)
    | (refine wpList_ldA (.tmp 2) (vs := [.int .i64 v.kind, .int .i64 v.int, .float .f64 v.flt, .string v.text]) rfl rfl agg_val rfl (HV.out) ?_)
    | (go_at_call 22; refine (HC.out _).mono ?_; rintro e w2 ⟨rfl, hb⟩))
  go_ret
  exact ⟨ret_bool (by first | rfl | (rw [Bool.eq_iff_iff]; simp)), hb⟩
set_option maxRecDepth 100000 in
set_option maxHeartbeats 1000000 in
theorem clos_high (g : Rng) (v : Val) (c : Int) (p q : Nat) (w : World) (hg : g.Ok) (hv : v.Ok) (h0 : At w p 0 g.cells) (h1 : At w q 0 [.int .i64 v.kind, .int .i64 v.int, .float .f64 v.flt, .string v.text]) :
    Calls Try.prog 146 #[.int .i64 c, .pointer (some ⟨p, 0, none⟩), .pointer (some ⟨q, 0, none⟩)] w fun ev w' => ev = .returned (.bool (decide (c < g.high.cmp v))) ∧ Ext w w' := by
  have HV := Lib.hid h1
  have HG : Hid (At w p 6 [.int .i64 g.high.kind, .int .i64 g.high.int, .float .f64 g.high.flt, .string g.high.text]) := Lib.hid (by
    unfold Rng.cells at h0
    obtain ⟨a0, a1, a2, a3, a4, a5, a6, a7, a8, a9, -⟩ := h0
    exact ⟨a6, a7, a8, a9, trivial⟩)
  have HC := Lib.hid (fun w => cmp_of g.high v w hg.high.flt hv.flt)
  clear h0 h1 hg hv
  generalize g.high.cmp v = z at *
  go_enter Try.func146, Try.ntmps146
  go_wp2_with (first
    | (refine wpList_ldA (.tmp 5) (vs := [.int .i64 g.high.kind, .int .i64 g.high.int, .float .f64 g.high.flt, .string g.high.text]) rfl rfl agg_val rfl (HG.out) ?_)
    | (refine wpList_ldA (.tmp 2) (vs := [.int .i64 v.kind, .int .i64 v.int, .float .f64 v.flt, .string v.text]) rfl rfl agg_val rfl (HV.out) ?_)
    | (go_at_call 22; refine (HC.out _).mono ?_; rintro e w2 ⟨rfl, hb⟩))
  go_ret
  exact ⟨ret_bool (by first | rfl | (rw [Bool.eq_iff_iff]; simp)), hb⟩

set_option maxRecDepth 100000 in
set_option maxHeartbeats 8000000 in
theorem compared_of (k : Int) (g : Rng) (v : Val) (turned : Bool) (w : World) (hg : g.Ok) (hv : v.Ok) :
    Calls Try.prog 105 #[.int .i64 k, .agg g.cells.toArray, .agg #[.int .i64 v.kind, .int .i64 v.int, .float .f64 v.flt, .string v.text], .bool turned] w fun ev w' => ev = .returned (.bool (cmpd k g v turned)) ∧ Ext w w' := by
  have HA : Hid (∀ u, Ext ((w.alloc (.cells [.int .i64 g.kind, .int .i64 g.nulls, .int .i64 g.low.kind, .int .i64 g.low.int, .float .f64 g.low.flt, .string g.low.text, .int .i64 g.high.kind, .int .i64 g.high.int, .float .f64 g.high.flt, .string g.high.text].toArray 149)).alloc (.cells [.int .i64 v.kind, .int .i64 v.int, .float .f64 v.flt, .string v.text].toArray 24)) u → At u w.heap.size 0 g.cells) := Lib.hid fun u h => (((BoxAt.new (w := w) (vs := [.int .i64 g.kind, .int .i64 g.nulls, .int .i64 g.low.kind, .int .i64 g.low.int, .float .f64 g.low.flt, .string g.low.text, .int .i64 g.high.kind, .int .i64 g.high.int, .float .f64 g.high.flt, .string g.high.text]) (t := 149) rfl rfl).ext ((Ext.refl (w.alloc (.cells [.int .i64 g.kind, .int .i64 g.nulls, .int .i64 g.low.kind, .int .i64 g.low.int, .float .f64 g.low.flt, .string g.low.text, .int .i64 g.high.kind, .int .i64 g.high.int, .float .f64 g.high.flt, .string g.high.text].toArray 149))).alloc (.cells [.int .i64 v.kind, .int .i64 v.int, .float .f64 v.flt, .string v.text].toArray 24))).ext h).cells
  have HB : Hid (∀ u, Ext ((w.alloc (.cells [.int .i64 g.kind, .int .i64 g.nulls, .int .i64 g.low.kind, .int .i64 g.low.int, .float .f64 g.low.flt, .string g.low.text, .int .i64 g.high.kind, .int .i64 g.high.int, .float .f64 g.high.flt, .string g.high.text].toArray 149)).alloc (.cells [.int .i64 v.kind, .int .i64 v.int, .float .f64 v.flt, .string v.text].toArray 24)) u → At u (w.heap.size + 1) 0 [.int .i64 v.kind, .int .i64 v.int, .float .f64 v.flt, .string v.text]) := Lib.hid fun u h => ((BoxAt.new (w := (w.alloc (.cells [.int .i64 g.kind, .int .i64 g.nulls, .int .i64 g.low.kind, .int .i64 g.low.int, .float .f64 g.low.flt, .string g.low.text, .int .i64 g.high.kind, .int .i64 g.high.int, .float .f64 g.high.flt, .string g.high.text].toArray 149))) (g := w.heap.size + 1) (vs := [.int .i64 v.kind, .int .i64 v.int, .float .f64 v.flt, .string v.text]) (t := 24) (by simp) rfl).ext h).cells
  have HE := Lib.hid (((Ext.refl w).alloc (.cells [.int .i64 g.kind, .int .i64 g.nulls, .int .i64 g.low.kind, .int .i64 g.low.int, .float .f64 g.low.flt, .string g.low.text, .int .i64 g.high.kind, .int .i64 g.high.int, .float .f64 g.high.flt, .string g.high.text].toArray 149)).alloc (.cells [.int .i64 v.kind, .int .i64 v.int, .float .f64 v.flt, .string v.text].toArray 24))
  have HL : Hid (∀ c u, Ext ((w.alloc (.cells [.int .i64 g.kind, .int .i64 g.nulls, .int .i64 g.low.kind, .int .i64 g.low.int, .float .f64 g.low.flt, .string g.low.text, .int .i64 g.high.kind, .int .i64 g.high.int, .float .f64 g.high.flt, .string g.high.text].toArray 149)).alloc (.cells [.int .i64 v.kind, .int .i64 v.int, .float .f64 v.flt, .string v.text].toArray 24)) u → Calls Try.prog 145 #[.int .i64 c, .pointer (some ⟨w.heap.size, 0, none⟩), .pointer (some ⟨w.heap.size + 1, 0, none⟩)] u fun ev w' => ev = .returned (.bool (decide (g.low.cmp v < c))) ∧ Ext u w') := Lib.hid fun c u h => clos_low g v c _ _ u hg hv (HA.out u h) (HB.out u h)
  have HH : Hid (∀ c u, Ext ((w.alloc (.cells [.int .i64 g.kind, .int .i64 g.nulls, .int .i64 g.low.kind, .int .i64 g.low.int, .float .f64 g.low.flt, .string g.low.text, .int .i64 g.high.kind, .int .i64 g.high.int, .float .f64 g.high.flt, .string g.high.text].toArray 149)).alloc (.cells [.int .i64 v.kind, .int .i64 v.int, .float .f64 v.flt, .string v.text].toArray 24)) u → Calls Try.prog 146 #[.int .i64 c, .pointer (some ⟨w.heap.size, 0, none⟩), .pointer (some ⟨w.heap.size + 1, 0, none⟩)] u fun ev w' => ev = .returned (.bool (decide (c < g.high.cmp v))) ∧ Ext u w') := Lib.hid fun c u h => clos_high g v c _ _ u hg hv (HA.out u h) (HB.out u h)
  clear HA HB hg hv
  unfold cmpd Rng.cells
  by_cases hv0 : v.kind = 0
  · have q1 : (v.kind == 0) = true := by simpa using hv0
    rw [if_pos hv0]
    clear hv0
    clear HL HH
    go_enter Try.func105, Try.ntmps105
    go_wp2_with fail
    go_ret
    exact ⟨rfl, HE.out⟩
  have q1 : (v.kind == 0) = false := by simpa using hv0
  rw [if_neg hv0]
  clear hv0
  by_cases hg0 : g.kind = 0
  · have q2 : (g.kind == 0) = true := by simpa using hg0
    rw [if_pos hg0]
    clear hg0
    clear HL HH
    go_enter Try.func105, Try.ntmps105
    go_wp2_with fail
    go_ret
    exact ⟨rfl, HE.out⟩
  have q2 : (g.kind == 0) = false := by simpa using hg0
  rw [if_neg hg0]
  clear hg0
  by_cases hne : g.kind ≠ v.kind
  · have q3 : (g.kind != v.kind) = true := by simpa using hne
    rw [if_pos hne]
    clear hne
    clear HL HH
    go_enter Try.func105, Try.ntmps105
    go_wp2_with fail
    go_ret
    exact ⟨rfl, HE.out⟩
  have q3 : (g.kind != v.kind) = false := by simpa using hne
  rw [if_neg hne]
  clear hne
  generalize g.low.cmp v = cl at *
  generalize g.high.cmp v = ch at *
  by_cases h7 : k = 7
  · have q4 : (k == 7) = true := by simpa using h7
    rw [if_pos h7]
    clear h7
    cases hcl : decide (cl < 1)
    · have HL1 : Hid (∀ u, Ext ((w.alloc (.cells [.int .i64 g.kind, .int .i64 g.nulls, .int .i64 g.low.kind, .int .i64 g.low.int, .float .f64 g.low.flt, .string g.low.text, .int .i64 g.high.kind, .int .i64 g.high.int, .float .f64 g.high.flt, .string g.high.text].toArray 149)).alloc (.cells [.int .i64 v.kind, .int .i64 v.int, .float .f64 v.flt, .string v.text].toArray 24)) u → Calls Try.prog 145 #[.int .i64 1, .pointer (some ⟨w.heap.size, 0, none⟩), .pointer (some ⟨w.heap.size + 1, 0, none⟩)] u fun ev w' => ev = .returned (.bool false) ∧ Ext u w') := Lib.hid fun u h => by have := HL.out 1 u h; rwa [hcl] at this
      clear hcl HL HH
      go_enter Try.func105, Try.ntmps105
      go_wp2_with (go_at_call 145; refine (HL1.out _ (Ext.refl _)).mono ?_; rintro ev w2 ⟨rfl, hb2⟩)
      go_ret
      exact ⟨rfl, HE.out.trans hb2⟩
    · have HL1 : Hid (∀ u, Ext ((w.alloc (.cells [.int .i64 g.kind, .int .i64 g.nulls, .int .i64 g.low.kind, .int .i64 g.low.int, .float .f64 g.low.flt, .string g.low.text, .int .i64 g.high.kind, .int .i64 g.high.int, .float .f64 g.high.flt, .string g.high.text].toArray 149)).alloc (.cells [.int .i64 v.kind, .int .i64 v.int, .float .f64 v.flt, .string v.text].toArray 24)) u → Calls Try.prog 145 #[.int .i64 1, .pointer (some ⟨w.heap.size, 0, none⟩), .pointer (some ⟨w.heap.size + 1, 0, none⟩)] u fun ev w' => ev = .returned (.bool true) ∧ Ext u w') := Lib.hid fun u h => by have := HL.out 1 u h; rwa [hcl] at this
      clear hcl HL
      go_enter Try.func105, Try.ntmps105
      go_wp2_with (first | (go_at_call 145; refine (HL1.out _ (Ext.refl _)).mono ?_; rintro ev w2 ⟨rfl, hb2⟩) | (go_at_call 146; refine (HH.out (-1) _ hb2).mono ?_; rintro ev w3 ⟨rfl, hb3⟩))
      go_ret
      exact ⟨ret_bool (by first | rfl | (simp_all; done)), HE.out.trans (hb2.trans hb3)⟩
  have q4 : (k == 7) = false := by simpa using h7
  rw [if_neg h7]
  clear h7
  by_cases h8 : k = 8
  · have q5 : (k == 8) = true := by simpa using h8
    rw [if_pos h8]
    clear h8
    cases turned
    · clear HH
      go_enter Try.func105, Try.ntmps105
      go_wp2_with (go_at_call 145; refine (HL.out 0 _ (Ext.refl _)).mono ?_; rintro ev w2 ⟨rfl, hb2⟩)
      go_ret
      exact ⟨ret_bool (by first | rfl | (simp_all; done)), HE.out.trans hb2⟩
    · clear HL
      go_enter Try.func105, Try.ntmps105
      go_wp2_with (go_at_call 146; refine (HH.out 0 _ (Ext.refl _)).mono ?_; rintro ev w2 ⟨rfl, hb2⟩)
      go_ret
      exact ⟨ret_bool (by first | rfl | (simp_all; done)), HE.out.trans hb2⟩
  have q5 : (k == 8) = false := by simpa using h8
  rw [if_neg h8]
  clear h8
  cases turned
  · clear HH
    go_enter Try.func105, Try.ntmps105
    go_wp2_with (go_at_call 145; refine (HL.out 1 _ (Ext.refl _)).mono ?_; rintro ev w2 ⟨rfl, hb2⟩)
    go_ret
    exact ⟨ret_bool (by first | rfl | (simp_all; done)), HE.out.trans hb2⟩
  · clear HL
    go_enter Try.func105, Try.ntmps105
    go_wp2_with (go_at_call 146; refine (HH.out (-1) _ (Ext.refl _)).mono ?_; rintro ev w2 ⟨rfl, hb2⟩)
    go_ret
    exact ⟨ret_bool (by first | rfl | (simp_all; done)), HE.out.trans hb2⟩
end Go.Proofs.Ytlcdjaclahhdnaa
