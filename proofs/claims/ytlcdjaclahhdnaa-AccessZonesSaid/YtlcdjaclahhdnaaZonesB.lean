/- The call of tabularyref26.May, whole; the call of the law AccessZones: true, whatever the rows, the columns, the relation and the condition. Printed by wip/tools/gen_zonesl.py. The row of AccessZones. -/
import Derived.Test.YtlcdjaclahhdnaaMayA
import Derived.Test.YtlcdjaclahhdnaaZonesR
import Derived.Test.YtlcdjaclahhdnaaOpenA
namespace Go.Proofs.Ytlcdjaclahhdnaa
open Go.RowKit
set_option linter.unusedSimpArgs false
set_option linter.unusedVariables false
attribute [local irreducible] wpQuiet wpList Code.wp

theorem mr_cmp (zr rel : Int) (cols : List Rng) (zs : Value) (k r c : Int) (v : Val) (l : List Ex) (es : Value) (w : World) (hz : RngsIn w zs cols) (he : Ex.In w (.mk k r c v l) es) (a b : Ex) (hl : l = [a, b]) (hf : 0 ≤ (Ex.mk k r c v l).count 1 400) (hk : k = 7 ∨ k = 8 ∨ k = 9) (hac : 0 ≤ a.col) (hbc : 0 ≤ b.col) :
    Calls Try.prog 48 #[.agg #[.int .i64 zr, zs], .int .i64 rel, .agg (exCells k r c v es).toArray] w fun ev w' => ev = .returned (.bool ((match (if b.kind = 2 then colE cols rel a else none) with | some g => cmpd k g b.const false | none => (match (if a.kind = 2 then colE cols rel b else none) with | some g => cmpd k g a.const true | none => true)))) ∧ Ext w w' := by
  by_cases hb2 : b.kind = 2
  · rw [if_pos hb2]
    cases hca : colE cols rel a with
    | some q => exact mr_first zr rel cols zs k r c v l es w hz he a b hl hf hk hac hbc q hb2 hca
    | none =>
      by_cases ha2 : a.kind = 2
      · rw [if_pos ha2]
        cases hcb : colE cols rel b with
        | some q => exact mr_second zr rel cols zs k r c v l es w hz he a b hl hf hk hac hbc q ha2 hcb
        | none => exact mr_none zr rel cols zs k r c v l es w hz he a b hl hf hk hac hbc (fun h => by rw [hca] at h; cases h) (fun h => by rw [hcb] at h; cases h)
      · rw [if_neg ha2]
        exact mr_none zr rel cols zs k r c v l es w hz he a b hl hf hk hac hbc (fun h => by rw [hca] at h; cases h) (fun _ => ha2)
  · rw [if_neg hb2]
    by_cases ha2 : a.kind = 2
    · rw [if_pos ha2]
      cases hcb : colE cols rel b with
      | some q => exact mr_second zr rel cols zs k r c v l es w hz he a b hl hf hk hac hbc q ha2 hcb
      | none => exact mr_none zr rel cols zs k r c v l es w hz he a b hl hf hk hac hbc (fun _ => hb2) (fun h => by rw [hcb] at h; cases h)
    · rw [if_neg ha2]
      exact mr_none zr rel cols zs k r c v l es w hz he a b hl hf hk hac hbc (fun _ => hb2) (fun _ => ha2)
theorem mayr_of (zr rel : Int) (cols : List Rng) (zs : Value) (e : Ex) (es : Value) (w : World) (hz : RngsIn w zs cols) (he : Ex.In w e es) :
    Calls Try.prog 48 #[.agg #[.int .i64 zr, zs], .int .i64 rel, .agg (e.cells es).toArray] w fun ev w' => ev = .returned (.bool (e.may zr cols rel)) ∧ Ext w w' := by
  cases e with
  | mk k r c v l =>
    show Calls Try.prog 48 #[.agg #[.int .i64 zr, zs], .int .i64 rel, .agg (exCells k r c v es).toArray] w fun ev w' => ev = .returned (.bool ((Ex.mk k r c v l).may zr cols rel)) ∧ Ext w w'
    unfold Ex.may
    by_cases hf : 0 ≤ (Ex.mk k r c v l).count 1 400
    · rw [if_neg (by simpa using hf)]
      obtain ⟨hk, hl⟩ := wf_kids (Ex.count_wf _ 1 400 hf)
      by_cases h7 : k = 7 ∨ k = 8 ∨ k = 9
      · have h2 : l.length = 2 := by
          have : kidsOf k = 2 := by rcases h7 with rfl | rfl | rfl <;> decide
          omega
        obtain ⟨a, b, rfl⟩ := list_two h2
        simp only [if_pos h7]
        exact mr_cmp zr rel cols zs k r c v [a, b] es w hz he a b rfl hf h7 (wf_col (hl a (by simp))) (wf_col (hl b (by simp)))
      · simp only [if_neg h7]
        by_cases h13 : k = 13
        · have h1 : l.length = 1 := by
            have : kidsOf k = 1 := by rw [h13]; decide
            omega
          obtain ⟨a, rfl⟩ := list_one h1
          simp only [if_pos h13]
          exact mr_null zr rel cols zs k r c v [a] es w hz he a rfl hf h13 (wf_col (hl a (by simp)))
        · simp only [if_neg h13]
          by_cases h12 : k = 12
          · have h1 : l.length = 1 := by
              have : kidsOf k = 1 := by rw [h12]; decide
              omega
            obtain ⟨x, rfl⟩ := list_one h1
            simp only [if_pos h12]
            cases x with
            | mk kx rx cx vx lx =>
              by_cases hx : kx = 13
              · obtain ⟨hkx, hlx⟩ := wf_kids (hl _ (by simp) : (Ex.mk kx rx cx vx lx).wf = true)
                have h1x : lx.length = 1 := by
                  have : kidsOf kx = 1 := by rw [hx]; decide
                  omega
                obtain ⟨a, rfl⟩ := list_one h1x
                subst hx
                exact mr_not_yes zr rel cols zs k r c v [.mk 13 rx cx vx [a]] es w hz he rx cx vx a rfl hf h12 (wf_col (hlx a (by simp)))
              · refine (mr_not_no zr rel cols zs k r c v [.mk kx rx cx vx lx] es w hz he kx rx cx vx lx rfl hf h12 hx).mono fun ev w' h => ⟨?_, h.2⟩
                rw [h.1]
                split
                · rename_i h
                  simp only [List.cons.injEq, Ex.mk.injEq, and_true] at h
                  exact absurd h.1 hx
                · rfl
          · simp only [if_neg h12]
            exact mr_else zr rel cols zs k r c v l es w hz he hf h7 h13 h12
    · rw [if_pos (by simpa using hf)]
      exact mr_bad zr rel cols zs k r c v l es w hz he hf

theorem Val.like.symm {a b : Val} (h : a.like b) : b.like a := ⟨h.1.symm, h.2.1.symm, h.2.2.1.symm, h.2.2.2.imp Eq.symm And.symm⟩
theorem Rng.Like.symm {g h : Rng} (k : g.Like h) : h.Like g := ⟨k.kind.symm, k.nulls.symm, k.low.symm, k.high.symm⟩
theorem colE_like {cols cols' : List Rng} (hl : cols.length = cols'.length) (hk : ∀ i (h : i < cols.length) (h' : i < cols'.length), (cols[i]).Like (cols'[i])) (rel : Int) (e : Ex) :
    (colE cols rel e = none ∧ colE cols' rel e = none) ∨ ∃ g g', colE cols rel e = some g ∧ colE cols' rel e = some g' ∧ g.Like g' := by
  unfold colE
  split
  · split
    · by_cases h : e.col.toNat < cols.length
      · exact .inr ⟨_, _, List.getElem?_eq_getElem h, List.getElem?_eq_getElem (by omega), hk _ h (by omega)⟩
      · exact .inl ⟨List.getElem?_eq_none (by omega), List.getElem?_eq_none (by omega)⟩
    · exact .inl ⟨rfl, rfl⟩
  · exact .inl ⟨rfl, rfl⟩
theorem cmpd_like {k : Int} {g g' : Rng} {v : Val} {t : Bool} (h : g.Like g') : cmpd k g v t = cmpd k g' v t := by
  unfold cmpd
  rw [h.kind, like_cmp h.low (Val.like.refl v), like_cmp h.high (Val.like.refl v)]
theorem may_like {cols cols' : List Rng} (hl : cols.length = cols'.length) (hk : ∀ i (h : i < cols.length) (h' : i < cols'.length), (cols[i]).Like (cols'[i])) (zr rel : Int) (e : Ex) : e.may zr cols rel = e.may zr cols' rel := by
  cases e with
  | mk k r c v l =>
    unfold Ex.may
    by_cases hf : 0 ≤ (Ex.mk k r c v l).count 1 400
    · rw [if_neg (by simpa using hf), if_neg (by simpa using hf)]
      dsimp only
      by_cases h7 : k = 7 ∨ k = 8 ∨ k = 9
      · rw [if_pos h7, if_pos h7]
        match l with
        | [a, b] =>
          dsimp only
          rcases colE_like hl hk rel a with ⟨e1, e2⟩ | ⟨g, g', e1, e2, e3⟩ <;> rcases colE_like hl hk rel b with ⟨f1, f2⟩ | ⟨p, p', f1, f2, f3⟩
          all_goals rw [e1, e2, f1, f2]
          all_goals by_cases hb : b.kind = 2
          all_goals by_cases ha : a.kind = 2
          all_goals simp only [ha, hb, if_true, if_false]
          all_goals first | rfl | exact cmpd_like e3 | exact cmpd_like f3
        | [] => rfl
        | [_] => rfl
        | _ :: _ :: _ :: _ => rfl
      · rw [if_neg h7, if_neg h7]
        by_cases h13 : k = 13
        · rw [if_pos h13, if_pos h13]
          match l with
          | [a] =>
            dsimp only
            rcases colE_like hl hk rel a with ⟨e1, e2⟩ | ⟨g, g', e1, e2, e3⟩
            · rw [e1, e2]
            · rw [e1, e2]; dsimp only; rw [e3.nulls]
          | [] => rfl
          | _ :: _ :: _ => rfl
        · rw [if_neg h13, if_neg h13]
          by_cases h12 : k = 12
          · rw [if_pos h12, if_pos h12]
            split
            · rename_i a
              rcases colE_like hl hk rel a with ⟨e1, e2⟩ | ⟨g, g', e1, e2, e3⟩
              · rw [e1, e2]
              · rw [e1, e2]; dsimp only; rw [e3.nulls]
            · rfl
          · rw [if_neg h12, if_neg h12]
    · rw [if_pos (by simpa using hf), if_pos (by simpa using hf)]
theorem cols_like (rows : List (List Val)) (n i : Nat) (h : i < (colsR rows n).length) (h' : i < (colsRR rows n).length) : ((colsR rows n)[i]).Like ((colsRR rows n)[i]) := by
  have e1 : (colsR rows n)[i] = rgAt rows i := by simp [colsR]
  have e2 : (colsRR rows n)[i] = rgR rows i := by simp [colsRR]
  rw [e1, e2]
  exact (rgR_like rows i).symm
theorem colsRR_ok {rows : List (List Val)} (h : ∀ r ∈ rows, ∀ v ∈ r, v.Ok) (n : Nat) : ∀ g ∈ colsRR rows n, g.Ok := by
  intro g hg
  obtain ⟨i, -, rfl⟩ := List.mem_map.1 hg
  exact rgR_ok h i
theorem chunk_ok {rows : List (List Val)} (h : ∀ r ∈ rows, ∀ v ∈ r, v.Ok) (k : Nat) : ∀ r ∈ chunkR rows k, ∀ v ∈ r, v.Ok := fun r hr => h r (List.mem_of_mem_drop (List.mem_of_mem_take hr))
theorem zonesOf_length (rows : List (List Val)) (n : Nat) : (zonesOf rows n).length = (rows.length + 15) / 16 := by simp [zonesOf]
theorem zonesR_length (rows : List (List Val)) (n : Nat) : (zonesR rows n).length = (rows.length + 15) / 16 := by simp [zonesR]
theorem zonesOf_get (rows : List (List Val)) (n i : Nat) (h : i < (zonesOf rows n).length) : (zonesOf rows n)[i] = znOf rows n i := by simp [zonesOf]
theorem zonesR_get (rows : List (List Val)) (n i : Nat) (h : i < (zonesR rows n).length) : (zonesR rows n)[i] = znR rows n i := by simp [zonesR]
theorem zones_like (rows : List (List Val)) (n : Nat) : ∀ i (h1 : i < (zonesOf rows n).length) (h2 : i < (zonesR rows n).length), ((zonesR rows n)[i]).rows = ((zonesOf rows n)[i]).rows ∧ ((zonesR rows n)[i]).cols.length = ((zonesOf rows n)[i]).cols.length ∧ ∀ k (h3 : k < ((zonesOf rows n)[i]).cols.length) (h4 : k < ((zonesR rows n)[i]).cols.length), (((zonesOf rows n)[i]).cols[k]).Like (((zonesR rows n)[i]).cols[k]) := by
  intro i h1 h2
  simp only [zonesOf_get, zonesR_get]
  exact ⟨rfl, by show (colsRR _ n).length = (colsR _ n).length; rw [colsRR_length, colsR_length], fun k h3 h4 => cols_like (chunkR rows i) n k h3 h4⟩
theorem zones_ins {w : World} {base : Nat} {v : Value} {rows : List (List Val)} {n : Nat} (h : OwnZ 84 149 w base v (zonesOf rows n)) (hok : ∀ r ∈ rows, ∀ v ∈ r, v.Ok) (hl : rows.length ≤ 1200) (hn : n ≤ 40) : ZnsIn w v (zonesOf rows n) :=
  h.ins (by rw [zonesOf_length]; omega) (fun z hz => by obtain ⟨k, -, rfl⟩ := List.mem_map.1 hz; exact colsR_ok (chunk_ok hok k) n) (fun z hz => by obtain ⟨k, -, rfl⟩ := List.mem_map.1 hz; show (colsR _ n).length ≤ _; rw [colsR_length]; omega)
theorem zonesr_ins {w : World} {base : Nat} {v : Value} {rows : List (List Val)} {n : Nat} (h : OwnZ 88 146 w base v (zonesR rows n)) (hok : ∀ r ∈ rows, ∀ v ∈ r, v.Ok) (hl : rows.length ≤ 1200) (hn : n ≤ 40) : ZnsIn w v (zonesR rows n) :=
  h.ins (by rw [zonesR_length]; omega) (fun z hz => by obtain ⟨k, -, rfl⟩ := List.mem_map.1 hz; exact colsRR_ok (chunk_ok hok k) n) (fun z hz => by obtain ⟨k, -, rfl⟩ := List.mem_map.1 hz; show (colsRR _ n).length ≤ _; rw [colsRR_length]; omega)
set_option maxRecDepth 100000 in
set_option maxHeartbeats 8000000 in
theorem zones_walk (rows : List (List Val)) (rv : Value) (cols rel : Int) (e : Ex) (se : Value) (w : World) (hrows : RowsIn w rv rows) (hine : Ex.In w e se) :
    Calls Try.prog 10 #[rv, .int .i64 cols, .int .i64 rel, .agg (e.cells se).toArray] w fun ev w' => ev = .returned (.bool true) ∧ Ext w w' := by
  obtain ⟨RA, rc, rfl, -⟩ := hrows.val
  obtain ⟨-, EA, ecap, rfl, -⟩ := hine.mk_inv.2.2.2.2
  have HR : Hid (∀ u, Ext w u → RowsIn u (.slice RA rows.length rc) rows) := Lib.hid fun u h => hrows.ext h
  have HI : Hid (∀ u, Ext w u → Ex.In u e (.slice EA e.kids.length ecap)) := Lib.hid fun u h => Ex.In.ext h _ _ hine
  have HOKR := Lib.hid (rows_ok hrows)
  have HX1 : Hid (∀ u, Ext w u → ExsIn (u.alloc (.cells (e.cells (.slice EA e.kids.length ecap)).toArray 27)) (.slice (some ⟨u.heap.size, 0, none⟩) 1 1) [e]) := Lib.hid fun u h => ExsIn.new (l := [e]) (ss := [.slice EA e.kids.length ecap]) (n := 1) (cap := 1) rfl rfl (by decide) (by decide) (by simp [exsCells]) (fun i hi hj => by
    match i, hi with
    | 0, _ => exact Ex.In.ext h _ _ hine)
  have HB0 := Lib.hid (BoxAt.new (w := w) (vs := e.cells (.slice EA e.kids.length ecap)) (t := 27) rfl rfl)
  have HE0 := Lib.hid ((Ext.refl w).alloc (.cells (e.cells (.slice EA e.kids.length ecap)).toArray 27))
  obtain ⟨n, hn⟩ : ∃ n : Nat, (n : Int) = min (max cols 0) 40 := ⟨(min (max cols 0) 40).toNat, by omega⟩
  have hn40 : n ≤ 40 := by omega
  have HN := Lib.hid hn
  clear hrows hine hn
  unfold Ex.cells exCells at HX1 HB0 HE0 ⊢
  go_enter Try.func10, Try.ntmps10
  go_upto_region 1 with fail
  refine name_worldA (fun u => Ext w u ∧ BoxAt u w.heap.size [.int .i64 e.kind, .int .i64 e.rel, .int .i64 e.col, .int .i64 e.const.kind, .int .i64 e.const.int, .float .f64 e.const.flt, .string e.const.text, .slice EA e.kids.length ecap]) ⟨HE0.out, HB0.out⟩ ?_
  clear HE0 HB0
  rintro U0 ⟨hE, hb⟩
  have HE0 := Lib.hid hE; have HB0 := Lib.hid hb
  clear hE hb
  go_upto_region 3 with (first
    | (refine wpList_ldA (.tmp 7) (vs := [.int .i64 e.kind, .int .i64 e.rel, .int .i64 e.col, .int .i64 e.const.kind, .int .i64 e.const.int, .float .f64 e.const.flt, .string e.const.text, .slice EA e.kids.length ecap]) rfl rfl agg_ex rfl (HB0.out.cells) ?_)
    | (go_at_call 42; refine (great26_of [e] _ rows _ _ (HX1.out _ HE0.out) (HR.out _ (HE0.out.alloc _))).mono ?_; rintro ev w2 ⟨hh, rfl⟩; obtain ⟨b1, rfl, hb1⟩ := hh.get; cases b1; rotate_left)
    | (go_at_call 43; refine (works26 _).mono ?_; rintro ev w3 ⟨rfl, he3⟩))
  · go_ret
    exact ⟨rfl, (HE0.out.alloc _).trans he3⟩
  · have HL := Lib.hid (hb1.out (by trivial))
    have HW2 := Lib.hid (HE0.out.alloc (.cells #[.int .i64 e.kind, .int .i64 e.rel, .int .i64 e.col, .int .i64 e.const.kind, .int .i64 e.const.int, .float .f64 e.const.flt, .string e.const.text, .slice EA e.kids.length ecap] 27))
    have HBE0 := Lib.hid (HB0.out.ext ((Ext.refl _).alloc (.cells #[.int .i64 e.kind, .int .i64 e.rel, .int .i64 e.col, .int .i64 e.const.kind, .int .i64 e.const.int, .float .f64 e.const.flt, .string e.const.text, .slice EA e.kids.length ecap] 27)))
    clear hb1 HX1 HB0 HE0
    refine name_worldA (fun u => Ext w u ∧ BoxAt u w.heap.size [.int .i64 e.kind, .int .i64 e.rel, .int .i64 e.col, .int .i64 e.const.kind, .int .i64 e.const.int, .float .f64 e.const.flt, .string e.const.text, .slice EA e.kids.length ecap]) ⟨HW2.out, HBE0.out⟩ ?_
    clear HW2 HBE0
    rintro U ⟨hE, hb⟩
    have HE := Lib.hid hE; have HBU := Lib.hid hb
    clear hE hb
    go_upto_region 4 with (first
      | (go_at_call 44; refine (zones_of rows _ cols n _ (HR.out _ HE.out) (by have := HL.out.1; omega) HN.out).mono ?_; rintro ev w3 ⟨va, rfl, hza, he3⟩; have HZA := Lib.hid (zones_ins hza HOKR.out HL.out.1 hn40); have HE3 := Lib.hid he3; clear hza he3)
      | (go_at_call 45; refine (zonesr_of rows _ cols n _ (HR.out _ (HE.out.trans HE3.out)) (by have := HL.out.1; omega) HN.out).mono ?_; rintro ev w4 ⟨vb, rfl, hzb, he4⟩; have HZB := Lib.hid (zonesr_ins hzb HOKR.out HL.out.1 hn40); have HE4 := Lib.hid he4; clear hzb he4))
    have HZA4 := Lib.hid (HZA.out.ext HE4.out); have HE5 := Lib.hid (HE3.out.trans HE4.out)
    have HQ : Hid (∀ u, Ext w4 u → Calls Try.prog 46 #[va, vb] u fun ev w' => ev = .returned (.bool true) ∧ Ext u w') := Lib.hid fun u h => zoneq_of (zonesOf rows n) (zonesR rows n) va vb u (HZA4.out.ext h) (HZB.out.ext h) (by rw [zonesOf_length, zonesR_length]) (zones_like rows n)
    obtain ⟨L, hL⟩ : ∃ L, L = (rows.length + 15) / 16 := ⟨_, rfl⟩
    obtain ⟨AA, ca, rfl, -⟩ := (show ∃ A c, va = Value.slice A L c ∧ True from by obtain ⟨A, c, h, _⟩ := HZA4.out.val; exact ⟨A, c, by rw [h, zonesOf_length, hL], trivial⟩)
    obtain ⟨AB, cb, rfl, -⟩ := (show ∃ A c, vb = Value.slice A L c ∧ True from by obtain ⟨A, c, h, _⟩ := HZB.out.val; exact ⟨A, c, by rw [h, zonesR_length, hL], trivial⟩)
    have hL9 : L ≤ 100 := by have := HL.out.1; omega
    have HLL := Lib.hid hL
    clear hL HZA HE3 HE4 HN
    go_wp2_with (go_at_call 46; refine (HQ.out _ (Ext.refl _)).mono ?_; rintro ev w5 ⟨rfl, he5⟩; have HE6 := Lib.hid he5; clear he5)
    have HW5 := Lib.hid ((HE.out.trans HE5.out).trans HE6.out)
    have HBE := Lib.hid (HBU.out.ext (HE5.out.trans HE6.out))
    have HZA5 := Lib.hid (HZA4.out.ext HE6.out); have HZB5 := Lib.hid (HZB.out.ext HE6.out)
    clear HQ HZA4 HZB HE HE5 HE6 HBU
    go_loopw [29] (fun y wr => ∃ i : Nat, y = .int .i64 (i : Int) ∧ i ≤ L ∧ Ext w5 wr) (fun y _ => L - (intOf y).toNat)
    case atStart => exact ⟨0, rfl, Nat.zero_le _, Ext.refl _⟩
    case round =>
      rename_i hrel
      obtain ⟨i, rfl, hi, hEr⟩ := hrel
      have HER := Lib.hid hEr
      clear hEr
      by_cases hlt : i < L
      · have hlt' : (i : Int) < (L : Int) := by omega
        have hia : i < (zonesOf rows n).length := by rw [zonesOf_length]; have := HLL.out; omega
        have hib : i < (zonesR rows n).length := by rw [zonesR_length]; have := HLL.out; omega
        obtain ⟨g, o, SA, n9, sca, rfl, h1, hta, hra⟩ := (HZA5.out.ext HER.out).at_ i hia
        obtain ⟨g2, o2, SB, n8, scb, rfl, h2, htb, hrb⟩ := (HZB5.out.ext HER.out).at_ i hib
        rw [zonesOf_get] at h1 hta hra
        rw [zonesR_get] at h2 htb hrb
        obtain ⟨rw9, hrw⟩ : ∃ r, r = (chunkR rows i).length := ⟨_, rfl⟩
        have h18 : n8 = n9 := by rw [h1, h2]; show (colsRR _ n).length = (colsR _ n).length; rw [colsRR_length, colsR_length]
        subst h18
        have HTA : Hid (∀ u, Ext wr u → At u g (o + i * 2) [.int .i64 (rw9 : Int), .slice SA n8 sca]) := Lib.hid (by rw [hrw]; exact hta)
        have HTB : Hid (∀ u, Ext wr u → At u g2 (o2 + i * 2) [.int .i64 (rw9 : Int), .slice SB n8 scb]) := Lib.hid (by rw [hrw]; exact htb)
        obtain ⟨m, hm⟩ : ∃ m, m = e.may (rw9 : Int) (colsR (chunkR rows i) n) rel := ⟨_, rfl⟩
        have hm2 : m = e.may (rw9 : Int) (colsRR (chunkR rows i) n) rel := by rw [hm]; exact may_like (by rw [colsRR_length, colsR_length]) (fun k h h' => cols_like (chunkR rows i) n k h h') _ _ _
        have HMA : Hid (∀ u, Ext wr u → Calls Try.prog 47 #[.agg #[.int .i64 (rw9 : Int), .slice SA n8 sca], .int .i64 rel, .agg #[.int .i64 e.kind, .int .i64 e.rel, .int .i64 e.col, .int .i64 e.const.kind, .int .i64 e.const.int, .float .f64 e.const.flt, .string e.const.text, .slice EA e.kids.length ecap]] u fun ev w' => ev = .returned (.bool m) ∧ Ext u w') := Lib.hid fun u h => by rw [hm]; exact may_of _ _ _ _ e _ u (hra.ext h) (HI.out u (HW5.out.trans (HER.out.trans h)))
        have HMB : Hid (∀ u, Ext wr u → Calls Try.prog 48 #[.agg #[.int .i64 (rw9 : Int), .slice SB n8 scb], .int .i64 rel, .agg #[.int .i64 e.kind, .int .i64 e.rel, .int .i64 e.col, .int .i64 e.const.kind, .int .i64 e.const.int, .float .f64 e.const.flt, .string e.const.text, .slice EA e.kids.length ecap]] u fun ev w' => ev = .returned (.bool m) ∧ Ext u w') := Lib.hid fun u h => by rw [hm2]; exact mayr_of _ _ _ _ e _ u (hrb.ext h) (HI.out u (HW5.out.trans (HER.out.trans h)))
        clear hta htb hra hrb hm hm2 hrw h1 h2 hia hib
        generalize hn8 : n8 = n9 at *
        clear hn8
        go_upto_region 9 with fail
        refine wp_region_held (S := Ext wr) (by kernel_rfl) ?_
        change wpAnyH _ _ _ _ _ _ _ _ wr.drew
        have HS0 : Hid (Ext wr wr.drew) := Lib.hid (Ext.refl _).drew
        refine held_run (i := 0) (.slice (some ⟨g, o, none⟩) L ca) rfl (by kernel_rfl) (by kernel_rfl) (by kernel_rfl) (fun _ _ _ h => h) rfl (fun u _ => by go_simp) HS0.out ?_
        simp only [Act.put, List.setIfInBounds_toArray, List.set_cons_zero, List.set_cons_succ]
        refine held_run (i := 1) (.int .i64 (i : Int)) rfl (by kernel_rfl) (by kernel_rfl) (by kernel_rfl) (fun _ _ _ h => h) rfl (fun u _ => by go_simp) HS0.out ?_
        simp only [Act.put, List.setIfInBounds_toArray, List.set_cons_zero, List.set_cons_succ]
        refine held_idxS (i := 2) i (.tmp 32) (.tmp 33) rfl rfl (by kernel_rfl) (by kernel_rfl) (by kernel_rfl) (fun _ _ _ h => h) rfl Try.underlying76 size_zone rfl rfl hlt HS0.out ?_
        simp only [Act.put, List.setIfInBounds_toArray, List.set_cons_zero, List.set_cons_succ]
        refine held_loadA (i := 3) (vs := [.int .i64 (rw9 : Int), .slice SA n9 sca]) (.tmp 34) rfl rfl (by kernel_rfl) (by kernel_rfl) (by kernel_rfl) (fun _ _ _ h => h) rfl agg_zone rfl (fun u h => HTA.out u h) HS0.out ?_
        simp only [Act.put, List.setIfInBounds_toArray, List.set_cons_zero, List.set_cons_succ]
        refine held_run (i := 4) (.int .i64 rel) rfl (by kernel_rfl) (by kernel_rfl) (by kernel_rfl) (fun _ _ _ h => h) rfl (fun u _ => by go_simp) HS0.out ?_
        simp only [Act.put, List.setIfInBounds_toArray, List.set_cons_zero, List.set_cons_succ]
        refine held_loadA (i := 5) (vs := [.int .i64 e.kind, .int .i64 e.rel, .int .i64 e.col, .int .i64 e.const.kind, .int .i64 e.const.int, .float .f64 e.const.flt, .string e.const.text, .slice EA e.kids.length ecap]) (.tmp 7) rfl rfl (by kernel_rfl) (by kernel_rfl) (by kernel_rfl) (fun _ _ _ h => h) rfl agg_ex rfl (fun u h => (HBE.out.ext (HER.out.trans h)).cells) HS0.out ?_
        simp only [Act.put, List.setIfInBounds_toArray, List.set_cons_zero, List.set_cons_succ]
        refine held_run (i := 7) (.slice (some ⟨g2, o2, none⟩) L cb) rfl (by kernel_rfl) (by kernel_rfl) (by kernel_rfl) (fun _ _ _ h => h) rfl (fun u _ => by go_simp) HS0.out ?_
        simp only [Act.put, List.setIfInBounds_toArray, List.set_cons_zero, List.set_cons_succ]
        refine held_run (i := 8) (.int .i64 (i : Int)) rfl (by kernel_rfl) (by kernel_rfl) (by kernel_rfl) (fun _ _ _ h => h) rfl (fun u _ => by go_simp) HS0.out ?_
        simp only [Act.put, List.setIfInBounds_toArray, List.set_cons_zero, List.set_cons_succ]
        refine held_idxS (i := 9) i (.tmp 39) (.tmp 40) rfl rfl (by kernel_rfl) (by kernel_rfl) (by kernel_rfl) (fun _ _ _ h => h) rfl Try.underlying78 size_zoneR rfl rfl hlt HS0.out ?_
        simp only [Act.put, List.setIfInBounds_toArray, List.set_cons_zero, List.set_cons_succ]
        refine held_loadA (i := 10) (vs := [.int .i64 (rw9 : Int), .slice SB n9 scb]) (.tmp 41) rfl rfl (by kernel_rfl) (by kernel_rfl) (by kernel_rfl) (fun _ _ _ h => h) rfl agg_zoneR rfl (fun u h => HTB.out u h) HS0.out ?_
        simp only [Act.put, List.setIfInBounds_toArray, List.set_cons_zero, List.set_cons_succ]
        refine held_run (i := 11) (.int .i64 rel) rfl (by kernel_rfl) (by kernel_rfl) (by kernel_rfl) (fun _ _ _ h => h) rfl (fun u _ => by go_simp) HS0.out ?_
        simp only [Act.put, List.setIfInBounds_toArray, List.set_cons_zero, List.set_cons_succ]
        refine held_loadA (i := 12) (vs := [.int .i64 e.kind, .int .i64 e.rel, .int .i64 e.col, .int .i64 e.const.kind, .int .i64 e.const.int, .float .f64 e.const.flt, .string e.const.text, .slice EA e.kids.length ecap]) (.tmp 7) rfl rfl (by kernel_rfl) (by kernel_rfl) (by kernel_rfl) (fun _ _ _ h => h) rfl agg_ex rfl (fun u h => (HBE.out.ext (HER.out.trans h)).cells) HS0.out ?_
        simp only [Act.put, List.setIfInBounds_toArray, List.set_cons_zero, List.set_cons_succ]
        refine held_do (i := 6) rfl (by kernel_rfl) rfl fun K hK => ?_
        refine wp_callF (fun x w' => x = .bool m ∧ Ext wr.drew w') (fun u => by go_simp) ((HMA.out wr.drew HS0.out).mono fun e w' h => ⟨_, h.1, rfl, h.2⟩) ?_
        rintro _ w5 ⟨rfl, he5⟩
        have HS5 : Hid (Ext wr w5) := Lib.hid (HS0.out.trans he5)
        clear he5
        refine hK _ _ HS5.out ?_
        try simp only [Act.put, List.setIfInBounds_toArray, List.set_cons_zero, List.set_cons_succ]
        clear hK K
        refine held_do (i := 13) rfl (by kernel_rfl) rfl fun K hK => ?_
        refine wp_callF (fun x w' => x = .bool m ∧ Ext w5 w') (fun u => by go_simp) ((HMB.out w5 HS5.out).mono fun e w' h => ⟨_, h.1, rfl, h.2⟩) ?_
        rintro _ w6 ⟨rfl, he6⟩
        have HS6 : Hid (Ext wr w6) := Lib.hid (HS5.out.trans he6)
        clear he6
        refine hK _ _ HS6.out ?_
        try simp only [Act.put, List.setIfInBounds_toArray, List.set_cons_zero, List.set_cons_succ]
        clear hK K
        refine held_run (i := 14) (.bool false) rfl (by kernel_rfl) (by kernel_rfl) (by kernel_rfl) (fun _ _ _ h => h) rfl (fun u _ => by go_simp) HS6.out ?_
        simp only [Act.put, List.setIfInBounds_toArray, List.set_cons_zero, List.set_cons_succ]
        refine wpAnyH_done (by kernel_rfl) ?_ _
        have hwi : wrap64 ((i : Int) + 1) = (i : Int) + 1 := by unfold wrap64; omega
        go_wp2_with fail
        refine ⟨⟨i + 1, by simp, by omega, HER.out.trans HS6.out⟩, by simp [intOf] <;> omega⟩
      · have hlt' : ¬ ((i : Int) < (L : Int)) := by omega
        go_wp2_with (go_at_call 43; refine (works26 _).mono ?_; rintro ev w6 ⟨rfl, he6⟩)
        go_ret
        exact ⟨rfl, HW5.out.trans (HER.out.trans he6)⟩
end Go.Proofs.Ytlcdjaclahhdnaa
namespace Go.Proofs.Ytlcdjaclahhdnaa.accessZones
open Go.RowKit Go.ChangeShapes Go.WideShapes Go.ChangeAt
set_option linter.unusedSimpArgs false
set_option linter.unusedVariables false

set_option maxRecDepth 100000 in
theorem lifted (os : Os) (started : os.Started) (H : Type) (enc : TypeId × Value → H) :
    ReturnsInHanded {} Try.checked os 10 .any (Rows.accessZonesSpec.pre6 enc Try.prog Try.f10 Rows.accessZonesRow.domain false) (Rows.accessZonesSpec.post enc Try.prog Try.f10 false true false false) := by
  refine returnsInHanded_of_change (C := Try.checked) own started (by kernel_rfl) Try.func10
    (ChangeSpec.witness6 (enc := enc) (C := Try.checked) false ⟨#[], #[.slice none 0 0, .int .i64 0, .int .i64 0, .agg #[.int .i64 0, .int .i64 0, .int .i64 0, .int .i64 0, .int .i64 0, .float .f64 0, .string ⟨#[]⟩, .slice none 0 0]], []⟩ 8 (by kernel_rfl) (by kernel_rfl) (by kernel_rfl) (by kernel_rfl)) ?_
  intro W base args ds gs before hval0 hW hcnd _
  have hval : ∀ (j : Nat) t v, Try.f10.params[j]? = some t → args[j]? = some v → Value.okWide Try.prog W .any base t v := hval0
  have hW' := hW
  obtain ⟨p, q, hA0, hV, rfl, hfz, hnd⟩ := hW
  have hA : DataW.TrodAll enc Try.prog W 0 (fun _ => true) true Try.f10.params.toList args.toList ds p := hA0
  rw [Try.params10] at hA hval
  obtain ⟨v0, v1, v2, v3, d0, d1, d2, d3, p0, p1, p2, p3, rfl, rfl, rfl, h0, h1, h2, h3⟩ := trodAll_four hA
  obtain ⟨rfl, rfl⟩ := trodVars_none hV
  obtain ⟨rows, hrows⟩ := open_rows (hval 0 _ _ rfl rfl) h0
  obtain ⟨cols, rfl, -, -, w1⟩ := open_int Try.underlying3 (hval 1 _ _ rfl rfl) h1
  obtain ⟨rel, rfl, -, -, w2⟩ := open_int Try.underlying3 (hval 2 _ _ rfl rfl) h2
  obtain ⟨e, se, rfl, hine⟩ := open_ex (hval 3 _ _ rfl rfl) h3
  refine (zones_walk rows v0 cols rel e se W hrows hine).mono fun e W' ⟨he, hE⟩ => ?_
  subst he
  exact ⟨_, rfl, hE.post hW' rfl rfl rfl (by rw [Try.params10]; decide +kernel)⟩

theorem proved : Rows.AccessZonesSaid :=
  OpenClaim.holds_of_wide 10 Try.f10 rfl rfl rfl rfl rfl rfl rfl ⟨rfl, rfl, rfl, rfl, rfl⟩ rfl rfl rfl rfl rfl (by kernel_rfl) Try.func10 (by kernel_rfl)
    (of_decide_eq_true (by kernel_rfl)) (by unfold Func.isWrapper; first | (rw [if_pos (by decide +kernel)]; kernel_rfl) | (rw [if_neg (by decide +kernel)]; exact ⟨rfl, rfl⟩))
    (fun os started H enc _ => lifted os started H enc)
end Go.Proofs.Ytlcdjaclahhdnaa.accessZones
