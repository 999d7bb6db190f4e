/- The calls of schema.Fits, tabularylaw22.fit. -/
import Derived.Test.YtlcdjaclahhdnaaFit
namespace Go.Proofs.Ytlcdjaclahhdnaa
open Go.RowKit
set_option linter.unusedSimpArgs false
set_option linter.unusedVariables false
attribute [local irreducible] wpQuiet

def kindsOk : List Val → List Int → Bool
  | v :: r, k :: cols => (v.kind == 0 || v.kind == k) && kindsOk r cols
  | _, _ => true
theorem kindsOk_drop {r : List Val} {cols : List Int} {i : Nat} (h1 : i < r.length) (h2 : i < cols.length) : kindsOk (r.drop i) (cols.drop i) = ((r[i].kind == 0 || r[i].kind == cols[i]) && kindsOk (r.drop (i + 1)) (cols.drop (i + 1))) := by
  rw [List.drop_eq_getElem_cons h1, List.drop_eq_getElem_cons h2]; rfl
theorem kindsOk_get : ∀ {r : List Val} {cols : List Int}, kindsOk r cols = true → ∀ (i : Nat) (h1 : i < r.length) (h2 : i < cols.length), r[i].kind = 0 ∨ r[i].kind = cols[i]
  | [], _, _, i, h1, _ => by simp at h1
  | _ :: _, [], _, i, _, h2 => by simp at h2
  | v :: r, k :: cols, h, i, h1, h2 => by
    simp only [kindsOk, Bool.and_eq_true, Bool.or_eq_true, beq_iff_eq] at h
    cases i with
    | zero => simpa using h.1
    | succ i => simpa using kindsOk_get h.2 i (by simpa using h1) (by simpa using h2)
/-- schema.Fits. -/
def fits (cols : List Int) (r : List Val) : Bool := decide (r.length = cols.length) && (rowRight r && kindsOk r cols)

set_option maxRecDepth 100000 in
set_option maxHeartbeats 4000000 in
theorem fits_of (nm : ByteArray) (u x : Value) (cols : List Int) (r : List Val) (w : World) (hc : ColsIn w u cols) (hl : r.length ≤ 9223372036854775807) (h : ValsIn w x r) :
    Calls Try.prog 92 #[.agg #[.string nm, u], x] w fun e w' => e = .returned (.bool (fits cols r)) ∧ Ext w w' := by
  obtain ⟨CA, cc, rfl, hcx⟩ := hc
  obtain ⟨⟨A, c, rfl, _⟩, _⟩ := id h
  have H := Lib.hid h; have HCX := Lib.hid hcx; clear h hcx
  have HB0 := Lib.hid (BoxAt.new (w := w) rfl (vs := [.string nm, .slice CA cols.length cc]) (t := 136) rfl)
  unfold fits
  by_cases hn : r.length = cols.length
  · have hn' : ((r.length : Int) != (cols.length : Int)) = false := by simp [hn]
    have HN := Lib.hid hn
    have HR := Lib.hid (fun u h => rowRight_of r A c u hl h)
    have e0 : (decide (r.length = cols.length) && (rowRight r && kindsOk r cols)) = (rowRight r && kindsOk r cols) := by rw [decide_eq_true hn]; rfl
    rw [e0]; clear e0 hn
    cases hrr : rowRight r
    · rw [hrr] at HR
      clear hrr
      go_enter Try.func92, Try.ntmps92
      go_wp2_with (go_at_call 135; refine (HR.out _ (H.out.ext ((Ext.refl _).alloc _))).mono ?_; rintro e w1 ⟨rfl, hb⟩)
      go_ret
      exact ⟨rfl, ((Ext.refl w).alloc _).trans hb⟩
    · rw [hrr] at HR
      clear hrr
      rw [Bool.true_and]
      go_enter Try.func92, Try.ntmps92
      go_wp2_with (go_at_call 135; refine (HR.out _ (H.out.ext ((Ext.refl _).alloc _))).mono ?_; rintro e w1 ⟨rfl, hb⟩)
      have HE1 := Lib.hid (((Ext.refl w).alloc _).trans hb)
      have HB1 := Lib.hid (HB0.out.ext hb)
      clear hb
      go_loopw [20] (fun y wr => ∃ i : Nat, y = .int .i64 (i : Int) ∧ i ≤ r.length ∧ kindsOk r cols = kindsOk (r.drop i) (cols.drop i) ∧ Ext w1 wr) (fun y _ => r.length - (intOf y).toNat)
      case atStart => exact ⟨0, rfl, by omega, rfl, Ext.refl _⟩
      case round =>
        rename_i hrel
        obtain ⟨i, rfl, hi, hk, hE⟩ := hrel
        have HK := Lib.hid hk; clear hk
        by_cases hlt : i < r.length
        · have hlc : i < cols.length := by have := HN.out; omega
          have hlt' : (i : Int) < (r.length : Int) := by omega
          have hI : (i : Int) ≤ 9223372036854775806 := by omega
          have HD := Lib.hid (kindsOk_drop hlt hlc)
          obtain ⟨g, o, rfl, _, hat, hok, hg⟩ := (H.out.ext (HE1.out.trans hE)).at_ i hlt
          obtain ⟨cg, co, rfl, hcg0, hcall⟩ := HCX.out (fun e => by subst e; simp at hlc)
          obtain ⟨cnm, hcat⟩ := hcall i hlc
          have HCOL := Lib.hid (hcat.ext (HE1.out.trans hE) hcg0)
          have hcg : cg < wr.heap.size := Nat.lt_of_lt_of_le hcg0 (HE1.out.trans hE).size
          have HAT := Lib.hid hat
          have HBX := Lib.hid (HB1.out.ext hE)
          clear hat hok hcall hcat hcg0
          unfold Val.cells at HAT
          generalize r[i] = v at *
          generalize cols[i] = k at *
          have hb6 := Lib.hid (BoxAt.new (w := wr) rfl (vs := [.int .i64 v.kind, .int .i64 v.int, .float .f64 v.flt, .string v.text]) (t := 24) rfl)
          by_cases hk0 : v.kind = 0
          · have hk1 : (v.kind != 0) = false := by simp [hk0]
            have HD2 : Hid (kindsOk r cols = kindsOk (r.drop (i + 1)) (cols.drop (i + 1))) := Lib.hid (by rw [HK.out, HD.out]; simp [hk0])
            clear hk0
            go_wp2_with (first
          | (refine wpList_wish rfl fun K hK => wp_idxS (i := i) Try.underlying59 sizeVal (.tmp 18) _ rfl rfl rfl hlt (hK _ _ ?_))
          | (refine wpList_wish rfl fun K hK => wp_loadA (vs := [.int .i64 v.kind, .int .i64 v.int, .float .f64 v.flt, .string v.text]) agg_val (.tmp 23) rfl rfl HAT.out (hK _ _ ?_)))
            refine wp_region_ext (by kernel_rfl) (by kernel_rfl) ?_; (repeat (first | (refine wpQuiet_step (fun K hK => ?_); go_simp; refine hK _ ?_; clear hK K) | (simp only [hk1]) | (refine quiet_cell2 (.tmp 25) rfl rfl Try.underlying3 rfl rfl (fun w' hw => (hb6.out.ext hw).cells.get 0 _ rfl) ?_) | (refine wpQuiet_step (fun K hK => ?_); go_simp; first | (refine ⟨_, fun w hw => rfl, hK _ ?_⟩; clear hK K)))); refine wpQuiet_nil ?_
            intro w6 hw6
            go_wp2_with fail
            refine ⟨⟨i + 1, by simp, by omega, HD2.out, hE.trans (((Ext.refl _).alloc _).trans hw6)⟩, by simp [intOf] <;> omega⟩
          · have hk1 : (v.kind != 0) = true := by simpa using hk0
            by_cases hkk : v.kind = k
            · have hk2 : (v.kind != k) = false := by simp [hkk]
              have HD2 : Hid (kindsOk r cols = kindsOk (r.drop (i + 1)) (cols.drop (i + 1))) := Lib.hid (by rw [HK.out, HD.out]; simp [hkk])
              clear hk0 hkk
              go_wp2_with (first
          | (refine wpList_wish rfl fun K hK => wp_idxS (i := i) Try.underlying59 sizeVal (.tmp 18) _ rfl rfl rfl hlt (hK _ _ ?_))
          | (refine wpList_wish rfl fun K hK => wp_loadA (vs := [.int .i64 v.kind, .int .i64 v.int, .float .f64 v.flt, .string v.text]) agg_val (.tmp 23) rfl rfl HAT.out (hK _ _ ?_)))
              refine wp_region_ext (by kernel_rfl) (by kernel_rfl) ?_; (repeat (first | (simp only [hk1]) | (simp only [hk2]) | (refine quiet_cell2 (.tmp 25) rfl rfl Try.underlying3 rfl rfl (fun w' hw => (hb6.out.ext hw).cells.get 0 _ rfl) ?_) | (refine quiet_cell2 (.tmp 29) rfl rfl Try.underlying3 rfl rfl (fun w' hw => (hb6.out.ext hw).cells.get 0 _ rfl) ?_) | (refine quiet_cell2 (.tmp 31) rfl rfl Try.underlying134 rfl rfl (fun w' hw => (HBX.out.ext (((Ext.refl wr).alloc _).trans hw)).cells.get 1 _ rfl) ?_) | (refine quiet_idxS2 (i := i) (.tmp 32) _ rfl rfl Try.underlying134 size_col rfl rfl hlc ?_) | (refine quiet_cell2 (.tmp 35) rfl rfl Try.underlying3 rfl rfl (fun w' hw => (HCOL.out.ext (((Ext.refl wr).alloc _).trans hw) hcg).get 1 _ rfl) ?_) | (refine wpQuiet_step (fun K hK => ?_); go_simp; first | (refine hK _ ?_; clear hK K) | (refine ⟨_, fun w hw => rfl, hK _ ?_⟩; clear hK K)))); refine wpQuiet_nil ?_
              intro w6 hw6
              go_wp2_with fail
              refine ⟨⟨i + 1, by simp, by omega, HD2.out, hE.trans (((Ext.refl _).alloc _).trans hw6)⟩, by simp [intOf] <;> omega⟩
            · have hk2 : (v.kind != k) = true := by simpa using hkk
              have HD2 : Hid (kindsOk r cols = false) := Lib.hid (by rw [HK.out, HD.out]; simp [hkk, hk0])
              clear hk0 hkk
              go_wp2_with (first
          | (refine wpList_wish rfl fun K hK => wp_idxS (i := i) Try.underlying59 sizeVal (.tmp 18) _ rfl rfl rfl hlt (hK _ _ ?_))
          | (refine wpList_wish rfl fun K hK => wp_loadA (vs := [.int .i64 v.kind, .int .i64 v.int, .float .f64 v.flt, .string v.text]) agg_val (.tmp 23) rfl rfl HAT.out (hK _ _ ?_)))
              refine wp_region_ext (by kernel_rfl) (by kernel_rfl) ?_; (repeat (first | (simp only [hk1]) | (simp only [hk2]) | (refine quiet_cell2 (.tmp 25) rfl rfl Try.underlying3 rfl rfl (fun w' hw => (hb6.out.ext hw).cells.get 0 _ rfl) ?_) | (refine quiet_cell2 (.tmp 29) rfl rfl Try.underlying3 rfl rfl (fun w' hw => (hb6.out.ext hw).cells.get 0 _ rfl) ?_) | (refine quiet_cell2 (.tmp 31) rfl rfl Try.underlying134 rfl rfl (fun w' hw => (HBX.out.ext (((Ext.refl wr).alloc _).trans hw)).cells.get 1 _ rfl) ?_) | (refine quiet_idxS2 (i := i) (.tmp 32) _ rfl rfl Try.underlying134 size_col rfl rfl hlc ?_) | (refine quiet_cell2 (.tmp 35) rfl rfl Try.underlying3 rfl rfl (fun w' hw => (HCOL.out.ext (((Ext.refl wr).alloc _).trans hw) hcg).get 1 _ rfl) ?_) | (refine wpQuiet_step (fun K hK => ?_); go_simp; first | (refine hK _ ?_; clear hK K) | (refine ⟨_, fun w hw => rfl, hK _ ?_⟩; clear hK K)))); refine wpQuiet_nil ?_
              intro w6 hw6
              go_wp2_with fail
              go_ret
              exact ⟨ret_bool HD2.out.symm, HE1.out.trans (hE.trans (((Ext.refl _).alloc _).trans hw6))⟩
        · have hlt' : ¬ ((i : Int) < (r.length : Int)) := by omega
          obtain rfl : i = r.length := by omega
          have HD2 : Hid (kindsOk r cols = true) := Lib.hid (by rw [HK.out, List.drop_length]; simp [kindsOk])
          go_wp2_with fail
          go_ret
          exact ⟨ret_bool HD2.out.symm, HE1.out.trans hE⟩
  · have hn' : ((r.length : Int) != (cols.length : Int)) = true := by simp; omega
    have e0 : (decide (r.length = cols.length) && (rowRight r && kindsOk r cols)) = false := by rw [decide_eq_false hn]; rfl
    rw [e0]; clear e0 hn
    go_enter Try.func92, Try.ntmps92
    go_wp2_with fail
    go_ret
    exact ⟨rfl, (Ext.refl w).alloc _⟩
theorem agg_tab : aggOk Try.prog 136 2 = true := by kernel_rfl
def fitGo : List (List Int) → List (List Val) → Bool
  | t :: ts, r :: rs => fits t r && fitGo ts rs
  | _, _ => true
theorem fitGo_drop {ts : List (List Int)} {rs : List (List Val)} {i : Nat} (h1 : i < ts.length) (h2 : i < rs.length) : fitGo (ts.drop i) (rs.drop i) = (fits ts[i] rs[i] && fitGo (ts.drop (i + 1)) (rs.drop (i + 1))) := by
  rw [List.drop_eq_getElem_cons h1, List.drop_eq_getElem_cons h2]; rfl
theorem fitGo_get : ∀ {ts : List (List Int)} {rs : List (List Val)}, fitGo ts rs = true → ∀ (i : Nat) (h1 : i < ts.length) (h2 : i < rs.length), fits ts[i] rs[i] = true
  | [], _, _, i, h1, _ => by simp at h1
  | _ :: _, [], _, i, _, h2 => by simp at h2
  | t :: ts, r :: rs, h, i, h1, h2 => by
    simp only [fitGo, Bool.and_eq_true] at h
    cases i with
    | zero => simpa using h.1
    | succ i => simpa using fitGo_get h.2 i (by simpa using h1) (by simpa using h2)
/-- tabularylaw22.fit. -/
def fitR (ts : List (List Int)) (rs : List (List Val)) : Bool := decide (ts.length = rs.length) && fitGo ts rs

set_option maxRecDepth 100000 in
set_option maxHeartbeats 4000000 in
theorem fit_of (tv rv : Value) (tabs : List (List Int)) (rows : List (List Val)) (w : World) (ht : TabsIn w tv tabs) (hr : RowsIn w rv rows) :
    Calls Try.prog 35 #[tv, rv] w fun e w' => e = .returned (.bool (fitR tabs rows)) ∧ Ext w w' := by
  obtain ⟨RA, rc, rfl, _⟩ := hr.val
  obtain ⟨htl, TA, tc, rfl, htx⟩ := id ht
  have hrl := hr.lens.1
  have HR := Lib.hid hr; have HT := Lib.hid ht
  clear hr ht htx
  unfold fitR
  by_cases hn : tabs.length = rows.length
  · have hn' : ((tabs.length : Int) != (rows.length : Int)) = false := by simp [hn]
    have e0 : (decide (tabs.length = rows.length) && fitGo tabs rows) = fitGo tabs rows := by rw [decide_eq_true hn]; rfl
    rw [e0]; clear e0
    have HN := Lib.hid hn; clear hn
    go_enter Try.func35, Try.ntmps35
    go_wp2_with fail
    go_loopw [13] (fun y wr => ∃ i : Nat, y = .int .i64 (i : Int) ∧ i ≤ tabs.length ∧ fitGo tabs rows = fitGo (tabs.drop i) (rows.drop i) ∧ Ext w wr) (fun y _ => tabs.length - (intOf y).toNat)
    case atStart => exact ⟨0, rfl, by omega, rfl, Ext.refl _⟩
    case round =>
      rename_i hrel
      obtain ⟨i, rfl, hi, hk, hE⟩ := hrel
      have HK := Lib.hid hk; clear hk
      by_cases hlt : i < tabs.length
      · have hlc : i < rows.length := by have := HN.out; omega
        have hlt' : (i : Int) < (tabs.length : Int) := by omega
        have hI : (i : Int) ≤ 9223372036854775806 := by omega
        have HD := Lib.hid (fitGo_drop hlt hlc)
        obtain ⟨_, TA', tc', hTA, htx⟩ := HT.out
        obtain ⟨g, o, htA, hg0, hall⟩ := htx (fun e => by subst e; simp at hlt)
        simp only [Value.slice.injEq] at hTA
        obtain ⟨rfl, _, rfl⟩ := hTA
        subst htA
        obtain ⟨nm, u, hat, hcols⟩ := hall i hlt
        obtain ⟨g2, o2, B, m, cb, rfl, _, rfl, hc, hv⟩ := HR.out.at_ i hlc
        have hvl := HR.out.lens.2 rows[i] (List.getElem_mem hlc)
        have HF := Lib.hid (fun v (he : Ext w v) => fits_of nm u (.slice B rows[i].length cb) tabs[i] rows[i] v (hcols.ext he) hvl (hv.ext he))
        have HAT := Lib.hid (fun v (he : Ext w v) => hat.ext he hg0)
        have HC := Lib.hid (fun v (he : Ext w v) => (by rw [Nat.mul_one]; exact (he.cell (cell_lt hc)).trans hc : v.cell? ⟨g2, o2 + i * 1, none⟩ = some (.slice B rows[i].length cb)))
        have HE := Lib.hid hE
        clear hat hcols hc hv hvl hall htx hE
        generalize hb : fits tabs[i] rows[i] = b at *
        generalize rows[i].length = rl at *
        cases b
        · have HD2 : Hid (fitGo tabs rows = false) := Lib.hid (by rw [HK.out, HD.out]; rfl)
          clear hb
          go_wp2_with fail
          refine wp_region_ext (by kernel_rfl) (by kernel_rfl) ?_; (repeat (first | (refine quiet_idxS2 (i := i) (.tmp 16) _ rfl rfl Try.underlying65 size_tab rfl rfl hlt ?_) | (refine quiet_loadA2 (vs := [.string nm, u]) (.tmp 18) rfl rfl agg_tab rfl (fun w' hw => HAT.out w' (HE.out.trans hw)) ?_) | (refine quiet_idxS2 (i := i) (.tmp 20) _ rfl rfl Try.underlying50 size_slice59 rfl rfl hlc ?_) | (refine quiet_cell2 (.tmp 22) rfl rfl Try.underlying59 rfl rfl (fun w' hw => HC.out w' (HE.out.trans hw)) ?_) | (refine wpQuiet_step (fun K hK => ?_); go_simp; first | (refine hK _ ?_; clear hK K) | (refine ⟨_, fun w hw => rfl, hK _ ?_⟩; clear hK K) | (apply Exists.intro; refine ⟨fun w hw => ?_, hK _ ?_⟩; (focus first | (go_at_call 92; exact (HF.out _ (HE.out.trans hw)).mono fun _ _ ⟨h1, h2⟩ => ⟨h1, hw.trans h2⟩)); clear hK K)))); refine wpQuiet_nil ?_
          intro w6 hw6
          go_wp2_with fail
          go_ret
          exact ⟨ret_bool HD2.out.symm, HE.out.trans hw6⟩
        · have HD2 : Hid (fitGo tabs rows = fitGo (tabs.drop (i + 1)) (rows.drop (i + 1))) := Lib.hid (by rw [HK.out, HD.out]; rfl)
          clear hb
          go_wp2_with fail
          refine wp_region_ext (by kernel_rfl) (by kernel_rfl) ?_; (repeat (first | (refine quiet_idxS2 (i := i) (.tmp 16) _ rfl rfl Try.underlying65 size_tab rfl rfl hlt ?_) | (refine quiet_loadA2 (vs := [.string nm, u]) (.tmp 18) rfl rfl agg_tab rfl (fun w' hw => HAT.out w' (HE.out.trans hw)) ?_) | (refine quiet_idxS2 (i := i) (.tmp 20) _ rfl rfl Try.underlying50 size_slice59 rfl rfl hlc ?_) | (refine quiet_cell2 (.tmp 22) rfl rfl Try.underlying59 rfl rfl (fun w' hw => HC.out w' (HE.out.trans hw)) ?_) | (refine wpQuiet_step (fun K hK => ?_); go_simp; first | (refine hK _ ?_; clear hK K) | (refine ⟨_, fun w hw => rfl, hK _ ?_⟩; clear hK K) | (apply Exists.intro; refine ⟨fun w hw => ?_, hK _ ?_⟩; (focus first | (go_at_call 92; exact (HF.out _ (HE.out.trans hw)).mono fun _ _ ⟨h1, h2⟩ => ⟨h1, hw.trans h2⟩)); clear hK K)))); refine wpQuiet_nil ?_
          intro w6 hw6
          go_wp2_with fail
          refine ⟨⟨i + 1, by simp, by omega, HD2.out, HE.out.trans hw6⟩, by simp [intOf] <;> omega⟩
      · have hlt' : ¬ ((i : Int) < (tabs.length : Int)) := by omega
        obtain rfl : i = tabs.length := by omega
        have HD2 : Hid (fitGo tabs rows = true) := Lib.hid (by rw [HK.out, List.drop_length]; simp [fitGo])
        go_wp2_with fail
        go_ret
        exact ⟨ret_bool HD2.out.symm, hE⟩
  · have hn' : ((tabs.length : Int) != (rows.length : Int)) = true := by simp; omega
    have e0 : (decide (tabs.length = rows.length) && fitGo tabs rows) = false := by rw [decide_eq_false hn]; rfl
    rw [e0]; clear e0 hn
    go_enter Try.func35, Try.ntmps35
    go_wp2_with fail
    go_ret
    exact ⟨rfl, Ext.refl _⟩
end Go.Proofs.Ytlcdjaclahhdnaa
