/- The call of tabularyref26.Zones. Printed by wip/tools/gen_zonesr.py. -/
import Derived.Test.YtlcdjaclahhdnaaRefA
namespace Go.Proofs.Ytlcdjaclahhdnaa
open Go.RowKit
set_option linter.unusedSimpArgs false
set_option linter.unusedVariables false
attribute [local irreducible] wpQuiet


theorem info_zoneR : (Try.prog.info? 88).map (fun i => (i.zero.map (·.cells.size), i.size, i.bytes)) = some (some 2, 2, 32) := by kernel_rfl
theorem meas_lt {n c : Nat} (h : c < n) : n - (intOf (.int .i64 ((c : Int) + 1))).toNat < n - (intOf (.int .i64 (c : Int))).toNat := by simp [intOf]; omega
theorem size_gs : (Try.prog.info? 86).map (·.size) = some 1 := by kernel_rfl


/-- The zone of the k-th chunk, as the document has it. -/
def znR (rows : List (List Val)) (n k : Nat) : Zn := ⟨(chunkR rows k).length, colsRR (chunkR rows k) n⟩
def zonesR (rows : List (List Val)) (n : Nat) : List Zn := (List.range ((rows.length + 15) / 16)).map (znR rows n)
theorem RowsIn.part {w : World} {g o cap k i e : Nat} {rows : List (List Val)} (h : RowsIn w (.slice (some ⟨g, o, none⟩) rows.length cap) rows) (hi : i = k * 16) (he : e = min (i + 16) rows.length) (hlt : i < rows.length) : RowsIn w (.slice (some ⟨g, o + i, none⟩) (e - i) (cap - i)) (chunkR rows k) := by
  obtain ⟨⟨A, c, h1, h2, h3, h4⟩, h5⟩ := h
  simp only [Value.slice.injEq] at h1
  obtain ⟨rfl, -, rfl⟩ := h1
  have hl : (chunkR rows k).length = e - i := by rw [chunkR_length]; omega
  refine ⟨⟨_, cap - i, by rw [hl], by rw [hl]; omega, (fun h => by cases h), fun _ => ?_⟩, by rw [hl]; have := h5.1; omega, fun r hr => h5.2 r (List.mem_of_mem_drop (List.mem_of_mem_take hr))⟩
  obtain ⟨g', o', h6, h7⟩ := h4 (fun e => by subst e; simp at hlt)
  cases h6
  refine ⟨g, o + i, rfl, fun q hq => ?_⟩
  rw [hl] at hq
  obtain ⟨s, h8, h9⟩ := h7 (i + q) (by omega)
  refine ⟨s, by rw [Nat.add_assoc]; exact h8, ?_⟩
  have e1 : (chunkR rows k)[q]'(by rw [hl]; exact hq) = rows[i + q]'(by omega) := by
    subst hi
    simp [chunkR, List.getElem_take, List.getElem_drop]
  rw [e1]; exact h9
set_option maxRecDepth 100000 in
set_option maxHeartbeats 8000000 in
theorem zonesr_of (rows : List (List Val)) (rv : Value) (cols : Int) (n : Nat) (w : World) (hrows : RowsIn w rv rows) (hrl : rows.length ≤ 1000000) (hn : (n : Int) = min (max cols 0) 40) :
    Calls Try.prog 45 #[rv, .int .i64 cols] w fun e w' => ∃ v, e = .returned v ∧ OwnZ 88 146 w' w.heap.size v (zonesR rows n) ∧ Ext w w' := by
  obtain ⟨RA, rc, rfl, hrc, -⟩ := hrows.val
  have HR := Lib.hid hrows
  have HOK := Lib.hid (rows_ok hrows)
  have HN := Lib.hid hn
  have hn40 : n ≤ 40 := by omega
  clear hrows hn
  go_enter Try.func45, Try.ntmps45
  go_upto_if 11 with fail
  obtain ⟨c9, hc9, hc40⟩ : ∃ c9 : Int, c9 = (if 40 < cols then 40 else cols) ∧ max c9 0 = (n : Int) := by
    refine ⟨_, rfl, ?_⟩
    have := HN.out
    split <;> omega
  go_cut [1] (fun s1 wx => s1 = .int .i64 c9 ∧ wx = w)
  case first =>
    by_cases h40 : 40 < cols
    · rw [if_pos h40] at hc9
      subst hc9
      go_wp2_with fail
      go_meet
      exact ⟨rfl, rfl⟩
    · rw [if_neg h40] at hc9
      subst hc9
      go_wp2_with fail
      go_meet
      exact ⟨rfl, rfl⟩
  case rest =>
    obtain ⟨rfl, hwx⟩ := hcut
    have hwx := hwx.symm
    subst hwx
    clear hc9 HN
    go_wp2_with fail
    go_loopw [5, 6] (fun v y wr => ∃ (A5 : Option Addr) (c5 k i9 : Nat), v = .slice A5 k c5 ∧ y = .int .i64 (i9 : Int) ∧ i9 = k * 16 ∧ k ≤ (rows.length + 15) / 16 ∧ OwnZ 88 146 wr w.heap.size (.slice A5 k c5) ((List.range k).map (znR rows n)) ∧ Ext w wr) (fun _ y _ => rows.length + 16 - (intOf y).toNat)
    case atStart => exact ⟨none, 0, 0, 0, rfl, rfl, rfl, Nat.zero_le _, OwnZ.nil _ _ _ _, Ext.refl _⟩
    case round =>
      rename_i hrel
      rename World => wo
      obtain ⟨A5, c5, k, i9, rfl, rfl, hik, hk, hz, hE⟩ := hrel
      have HZ := Lib.hid hz; have HE := Lib.hid hE; have HIK := Lib.hid hik
      clear hz hE hik
      by_cases hlt : i9 < rows.length
      · have hlt' : (i9 : Int) < (rows.length : Int) := by omega
        have hw16 : wrap64 ((i9 : Int) + 16) = (i9 : Int) + 16 := by unfold wrap64; omega
        obtain ⟨gr, o, -, -, -, rfl, -⟩ := (HR.out.ext HE.out).at_ 0 (by omega)
        obtain ⟨e9, he9⟩ : ∃ e9 : Nat, e9 = min (i9 + 16) rows.length := ⟨_, rfl⟩
        have HE9 := Lib.hid he9
        have he1 : i9 < e9 := by omega
        have he2 : e9 ≤ rows.length := by omega
        have HCL : Hid ((chunkR rows k).length = e9 - i9) := Lib.hid (by have := HIK.out; rw [chunkR_length]; omega)
        go_upto_if 23 with fail
        go_cut [7] (fun s7 wx => s7 = .int .i64 (e9 : Int) ∧ wx = wo)
        case first =>
          by_cases h16 : rows.length < i9 + 16
          · have h16' : (rows.length : Int) < (i9 : Int) + 16 := by omega
            have e1 : e9 = rows.length := by omega
            go_wp2_with fail
            go_meet
            exact ⟨by rw [e1], rfl⟩
          · have h16' : ¬ (rows.length : Int) < (i9 : Int) + 16 := by omega
            have e1 : e9 = i9 + 16 := by omega
            go_wp2_with fail
            go_meet
            exact ⟨by rw [e1]; rfl, rfl⟩
        case rest =>
          obtain ⟨rfl, hwx⟩ := hcut
          have hwx := hwx.symm
          subst hwx
          have HPT : Hid (∀ u, Ext wo u → RowsIn u (.slice (some ⟨gr, o + i9, none⟩) (e9 - i9) (rc - i9)) (chunkR rows k)) := Lib.hid fun u h => RowsIn.part ((HR.out.ext HE.out).ext h) HIK.out HE9.out hlt
          clear he9
          go_wp2_with (refine wpList_storeA (vs' := [.int .i64 ((e9 : Int) - (i9 : Int)), .slice none 0 0]) (Rng.one9 rfl) (BoxAt.new (w := wo) (g := wo.heap.size) (vs := [.int .i64 0, .slice none 0 0]) (t := 88) rfl rfl) size_zoneR rfl rfl (.tmp 8) (.tmp 29) rfl rfl rfl ?_; intro w10 hq1 hq2; have HB10 := Lib.hid hq1; have HX10 : Hid (Ext wo w10) := Lib.hid (But.to_ext ((Ext.refl wo).alloc _) hq2 (Nat.le_refl _)); clear hq1 hq2)
          have HB8 : Hid (wo.heap.size < w10.heap.size) := Lib.hid (by have := HB10.out.lt; omega)
          have hs8 : w.heap.size ≤ wo.heap.size := HE.out.size
          obtain ⟨B8, hB8⟩ : ∃ B8, wo.heap.size = B8 := ⟨_, rfl⟩
          rw [hB8] at HB8 hs8 HB10 ⊢
          have HW8 := Lib.hid hB8
          clear hB8
          go_loopw [9] (fun y wq => ∃ (c : Nat) (v : Value), y = .int .i64 (c : Int) ∧ c ≤ n ∧ wq.ownsRow (B8 + 1) 146 10 v c (rgc (colsRR (chunkR rows k) c)) ∧ BoxAt wq B8 [.int .i64 ((e9 : Int) - (i9 : Int)), v] ∧ Ext wo wq) (fun y _ => n - (intOf y).toNat)
          case atStart => exact ⟨0, _, rfl, Nat.zero_le _, owns_nil _ _ _ _, HB10.out, HX10.out⟩
          case round =>
            rename_i hrel
            obtain ⟨c, v8, rfl, hc, ho, hb, hEq⟩ := hrel
            obtain ⟨A8, c8, rfl⟩ := owns_shape ho
            have HOQ := Lib.hid ho; have HBQ := Lib.hid hb; have HEQ := Lib.hid hEq
            clear ho hb hEq
            by_cases hcn : c < n
            · have hcn' : (c : Int) < c9 := by omega
              clear hw16
              have hc9 : c ≤ 1000000000 := Nat.le_trans (Nat.le_of_lt hcn) (Nat.le_trans hn40 (by decide))
              have HCOL : Hid (rgc (colsRR (chunkR rows k) (c + 1)) = rgc (colsRR (chunkR rows k) c) ++ (rgR (chunkR rows k) c).cells) := Lib.hid (by unfold colsRR rgc; rw [List.range_succ]; simp)
              have HON : Hid (∀ u, Ext wr u → Calls Try.prog 102 #[.slice (some ⟨gr, o + i9, none⟩) (e9 - i9) (rc - i9), .int .i64 (c : Int)] u fun e w' => e = .returned (.agg (rgR (chunkR rows k) c).cells.toArray) ∧ Ext u w') := Lib.hid fun u h => one_of (chunkR rows k) _ c u (HPT.out u (HEQ.out.trans h)) (by rw [chunkR_length]; exact Nat.le_trans (Nat.min_le_left _ _) (by decide)) (Nat.le_trans (Nat.le_of_lt hcn) (Nat.le_trans hn40 (by decide)))
              have hb1 : (0 : Int) ≤ (i9 : Int) := by omega
              have hb2 : (i9 : Int) ≤ (e9 : Int) := by omega
              have hb3 : (e9 : Int) ≤ (rc : Int) := by omega
              have hb4 : ¬ rc = i9 := by omega
              unfold Rng.cells at HON HCOL
              generalize rgR (chunkR rows k) c = gp at *
              go_upto_region 14 with fail
              refine wp_region_held (S := fun _ => True) (by kernel_rfl) ?_
              change wpAnyH _ _ _ _ _ _ _ _ wr.drew
              have HS0 : Hid True := Lib.hid trivial
              refine held_run (i := 0) (.pointer (some ⟨B8, 1, none⟩)) rfl (by kernel_rfl) (by kernel_rfl) (by kernel_rfl) (fun _ _ _ h => h) rfl (fun u _ => by go_simp) HS0.out ?_
              try simp only [Act.put, List.setIfInBounds_toArray, List.set_cons_zero, List.set_cons_succ]
              refine held_run (i := 2) (.slice (some ⟨gr, o, none⟩) rows.length rc) rfl (by kernel_rfl) (by kernel_rfl) (by kernel_rfl) (fun _ _ _ h => h) rfl (fun u _ => by go_simp) HS0.out ?_
              try simp only [Act.put, List.setIfInBounds_toArray, List.set_cons_zero, List.set_cons_succ]
              refine held_run (i := 3) (.int .i64 (i9 : Int)) rfl (by kernel_rfl) (by kernel_rfl) (by kernel_rfl) (fun _ _ _ h => h) rfl (fun u _ => by go_simp) HS0.out ?_
              try simp only [Act.put, List.setIfInBounds_toArray, List.set_cons_zero, List.set_cons_succ]
              refine held_run (i := 4) (.int .i64 (e9 : Int)) rfl (by kernel_rfl) (by kernel_rfl) (by kernel_rfl) (fun _ _ _ h => h) rfl (fun u _ => by go_simp) HS0.out ?_
              try simp only [Act.put, List.setIfInBounds_toArray, List.set_cons_zero, List.set_cons_succ]
              refine held_run (i := 5) (.slice (some ⟨gr, o + i9, none⟩) (e9 - i9) (rc - i9)) rfl (by kernel_rfl) (by kernel_rfl) (by kernel_rfl) (fun _ _ _ h => h) rfl (fun u _ => by go_simp) HS0.out ?_
              try simp only [Act.put, List.setIfInBounds_toArray, List.set_cons_zero, List.set_cons_succ]
              refine held_run (i := 6) (.int .i64 (c : Int)) rfl (by kernel_rfl) (by kernel_rfl) (by kernel_rfl) (fun _ _ _ h => h) rfl (fun u _ => by go_simp) HS0.out ?_
              try simp only [Act.put, List.setIfInBounds_toArray, List.set_cons_zero, List.set_cons_succ]
              have HBp0 : Hid (BoxAt wr.drew B8 [.int .i64 ((e9 : Int) - (i9 : Int)), .slice A8 c c8]) := Lib.hid (HBQ.out.ext (Ext.refl _).drew)
              have HEp0 : Hid (Ext wr wr.drew) := Lib.hid (Ext.refl _).drew
              refine held_two (i := 1) (j := 7) rfl rfl (by kernel_rfl) rfl rfl (fun K hK => ?_) (fun K hK => ?_)
              · refine wp_cell Try.underlying86 rfl (.tmp 35) rfl rfl (by have h := HBp0.out.cells.get 1 _ rfl; simpa using h) ?_
                refine hK _ _ trivial ?_
                try simp only [Act.put, List.setIfInBounds_toArray, List.set_cons_zero, List.set_cons_succ]
                clear hK K
                refine held_do (i := 7) rfl (by kernel_rfl) rfl fun K hK => ?_
                refine wp_callF (fun y w' => y = .agg #[.int .i64 gp.kind, .int .i64 gp.nulls, .int .i64 gp.low.kind, .int .i64 gp.low.int, .float .f64 gp.low.flt, .string gp.low.text, .int .i64 gp.high.kind, .int .i64 gp.high.int, .float .f64 gp.high.flt, .string gp.high.text] ∧ Ext wr.drew w') (fun u => by go_simp) ((HON.out wr.drew HEp0.out).mono fun e w' h => ⟨_, h.1, rfl, h.2⟩) ?_
                rintro _ wA ⟨rfl, he⟩
                have HEp1 : Hid (Ext wr wA) := Lib.hid (HEp0.out.trans he)
                have HBp1 := Lib.hid (HBp0.out.ext he)
                clear he
                refine hK _ _ trivial ?_
                try simp only [Act.put, List.setIfInBounds_toArray, List.set_cons_zero, List.set_cons_succ]
                clear hK K
                refine held_do (i := 8) rfl (by kernel_rfl) rfl fun K hK => ?_
                unfold Oper.wp execOp
                go_simp
                refine hK _ _ trivial ?_
                try simp only [Act.put, List.setIfInBounds_toArray, List.set_cons_zero, List.set_cons_succ]
                clear hK K
                have HEp2 : Hid (Ext wr (wA.alloc (.cells #[.int .i64 gp.kind, .int .i64 gp.nulls, .int .i64 gp.low.kind, .int .i64 gp.low.int, .float .f64 gp.low.flt, .string gp.low.text, .int .i64 gp.high.kind, .int .i64 gp.high.int, .float .f64 gp.high.flt, .string gp.high.text] 146))) := Lib.hid (HEp1.out.alloc _)
                have HBp2 : Hid (BoxAt (wA.alloc (.cells #[.int .i64 gp.kind, .int .i64 gp.nulls, .int .i64 gp.low.kind, .int .i64 gp.low.int, .float .f64 gp.low.flt, .string gp.low.text, .int .i64 gp.high.kind, .int .i64 gp.high.int, .float .f64 gp.high.flt, .string gp.high.text] 146)) B8 [.int .i64 ((e9 : Int) - (i9 : Int)), .slice A8 c c8]) := Lib.hid (HBp1.out.ext ((Ext.refl _).alloc _))
                refine held_do (i := 9) rfl (by kernel_rfl) rfl fun K hK => ?_
                refine wp_one (base := B8 + 1) (n := c) (.tmp 36) (.tmp 43) rfl Try.underlying86 info_rngR (by decide) (by decide) rfl (owns_ext HOQ.out HEp2.out) [.int .i64 gp.kind, .int .i64 gp.nulls, .int .i64 gp.low.kind, .int .i64 gp.low.int, .float .f64 gp.low.flt, .string gp.low.text, .int .i64 gp.high.kind, .int .i64 gp.high.int, .float .f64 gp.high.flt, .string gp.high.text] rfl (Rng.one9 rfl) rfl (heap_alloc_new _ _) hc9 (Nat.le_trans (Nat.succ_le_of_lt HBQ.out.lt) HEp2.out.size) ?_
                intro g7 cap7 w7 ho7 hb7
                have HE7 : Hid (Ext wo w7) := Lib.hid (hb7.to_ext (HEQ.out.trans HEp2.out) (fun k h => Nat.le_trans (Nat.le_of_eq HW8.out) (Nat.le_trans (Nat.le_succ _) (owns_lt HOQ.out h).2)))
                have HB7 := Lib.hid (hb7.box (fun h => absurd (owns_lt HOQ.out h).2 (Nat.not_succ_le_self _)) HBp2.out)
                have HO7 := Lib.hid ho7
                clear ho7 hb7
                refine hK _ _ trivial ?_
                try simp only [Act.put, List.setIfInBounds_toArray, List.set_cons_zero, List.set_cons_succ]
                clear hK K
                refine held_run (i := 10) (.pointer (some ⟨B8, 1, none⟩)) rfl (by kernel_rfl) (by kernel_rfl) (by kernel_rfl) (fun _ _ _ h => h) rfl (fun u _ => by go_simp) HS0.out ?_
                try simp only [Act.put, List.setIfInBounds_toArray, List.set_cons_zero, List.set_cons_succ]
                refine held_do (i := 11) rfl (by kernel_rfl) rfl fun K hK => ?_
                refine wp_storeM (f := 1) (vs' := [.slice (some ⟨g7, 0, none⟩) (c + 1) cap7]) (Rng.one9 rfl) HB7.out size_gs (by simp) rfl (.tmp 45) (.tmp 44) rfl rfl rfl ?_
                intro w8 hq1 hq2
                simp only [setMany, List.set_cons_zero, List.set_cons_succ] at hq1
                have HB9 := Lib.hid hq1
                have HE9 : Hid (Ext wo w8) := Lib.hid (But.to_ext HE7.out hq2 (Nat.le_of_eq HW8.out))
                have HO9 := Lib.hid (owns_buts HO7.out (ButS.of_but (M := fun k => k = B8) hq2 rfl) (fun g h e => absurd (e ▸ (owns_lt HO7.out h).2) (Nat.not_succ_le_self _)))
                clear hq1 hq2
                refine hK _ _ trivial ?_
                try simp only [Act.put, List.setIfInBounds_toArray, List.set_cons_zero, List.set_cons_succ]
                clear hK K
                refine wpAnyH_done (by kernel_rfl) ?_ _
                have hwc : wrap64 ((c : Int) + 1) = (c : Int) + 1 := by unfold wrap64; omega
                go_wp2_with fail
                simp only [hwc]
                clear hwc hb1 hb2 hb3 hb4 hcn'
                refine ⟨⟨c + 1, _, by simp, hcn, ?_, HB9.out, HE9.out⟩, meas_lt hcn⟩
                rw [HCOL.out]
                exact HO9.out
              · refine wp_callF (fun y w' => y = .agg #[.int .i64 gp.kind, .int .i64 gp.nulls, .int .i64 gp.low.kind, .int .i64 gp.low.int, .float .f64 gp.low.flt, .string gp.low.text, .int .i64 gp.high.kind, .int .i64 gp.high.int, .float .f64 gp.high.flt, .string gp.high.text] ∧ Ext wr.drew w') (fun u => by go_simp) ((HON.out wr.drew HEp0.out).mono fun e w' h => ⟨_, h.1, rfl, h.2⟩) ?_
                rintro _ wA ⟨rfl, he⟩
                have HEp1 : Hid (Ext wr wA) := Lib.hid (HEp0.out.trans he)
                have HBp1 := Lib.hid (HBp0.out.ext he)
                clear he
                refine hK _ _ trivial ?_
                try simp only [Act.put, List.setIfInBounds_toArray, List.set_cons_zero, List.set_cons_succ]
                clear hK K
                refine held_two (i := 1) (j := 8) rfl rfl (by kernel_rfl) rfl rfl (fun K hK => ?_) (fun K hK => ?_)
                · refine wp_cell Try.underlying86 rfl (.tmp 35) rfl rfl (by have h := HBp1.out.cells.get 1 _ rfl; simpa using h) ?_
                  refine hK _ _ trivial ?_
                  try simp only [Act.put, List.setIfInBounds_toArray, List.set_cons_zero, List.set_cons_succ]
                  clear hK K
                  refine held_do (i := 8) rfl (by kernel_rfl) rfl fun K hK => ?_
                  unfold Oper.wp execOp
                  go_simp
                  refine hK _ _ trivial ?_
                  try simp only [Act.put, List.setIfInBounds_toArray, List.set_cons_zero, List.set_cons_succ]
                  clear hK K
                  have HEp2 : Hid (Ext wr (wA.alloc (.cells #[.int .i64 gp.kind, .int .i64 gp.nulls, .int .i64 gp.low.kind, .int .i64 gp.low.int, .float .f64 gp.low.flt, .string gp.low.text, .int .i64 gp.high.kind, .int .i64 gp.high.int, .float .f64 gp.high.flt, .string gp.high.text] 146))) := Lib.hid (HEp1.out.alloc _)
                  have HBp2 : Hid (BoxAt (wA.alloc (.cells #[.int .i64 gp.kind, .int .i64 gp.nulls, .int .i64 gp.low.kind, .int .i64 gp.low.int, .float .f64 gp.low.flt, .string gp.low.text, .int .i64 gp.high.kind, .int .i64 gp.high.int, .float .f64 gp.high.flt, .string gp.high.text] 146)) B8 [.int .i64 ((e9 : Int) - (i9 : Int)), .slice A8 c c8]) := Lib.hid (HBp1.out.ext ((Ext.refl _).alloc _))
                  refine held_do (i := 9) rfl (by kernel_rfl) rfl fun K hK => ?_
                  refine wp_one (base := B8 + 1) (n := c) (.tmp 36) (.tmp 43) rfl Try.underlying86 info_rngR (by decide) (by decide) rfl (owns_ext HOQ.out HEp2.out) [.int .i64 gp.kind, .int .i64 gp.nulls, .int .i64 gp.low.kind, .int .i64 gp.low.int, .float .f64 gp.low.flt, .string gp.low.text, .int .i64 gp.high.kind, .int .i64 gp.high.int, .float .f64 gp.high.flt, .string gp.high.text] rfl (Rng.one9 rfl) rfl (heap_alloc_new _ _) hc9 (Nat.le_trans (Nat.succ_le_of_lt HBQ.out.lt) HEp2.out.size) ?_
                  intro g7 cap7 w7 ho7 hb7
                  have HE7 : Hid (Ext wo w7) := Lib.hid (hb7.to_ext (HEQ.out.trans HEp2.out) (fun k h => Nat.le_trans (Nat.le_of_eq HW8.out) (Nat.le_trans (Nat.le_succ _) (owns_lt HOQ.out h).2)))
                  have HB7 := Lib.hid (hb7.box (fun h => absurd (owns_lt HOQ.out h).2 (Nat.not_succ_le_self _)) HBp2.out)
                  have HO7 := Lib.hid ho7
                  clear ho7 hb7
                  refine hK _ _ trivial ?_
                  try simp only [Act.put, List.setIfInBounds_toArray, List.set_cons_zero, List.set_cons_succ]
                  clear hK K
                  refine held_run (i := 10) (.pointer (some ⟨B8, 1, none⟩)) rfl (by kernel_rfl) (by kernel_rfl) (by kernel_rfl) (fun _ _ _ h => h) rfl (fun u _ => by go_simp) HS0.out ?_
                  try simp only [Act.put, List.setIfInBounds_toArray, List.set_cons_zero, List.set_cons_succ]
                  refine held_do (i := 11) rfl (by kernel_rfl) rfl fun K hK => ?_
                  refine wp_storeM (f := 1) (vs' := [.slice (some ⟨g7, 0, none⟩) (c + 1) cap7]) (Rng.one9 rfl) HB7.out size_gs (by simp) rfl (.tmp 45) (.tmp 44) rfl rfl rfl ?_
                  intro w8 hq1 hq2
                  simp only [setMany, List.set_cons_zero, List.set_cons_succ] at hq1
                  have HB9 := Lib.hid hq1
                  have HE9 : Hid (Ext wo w8) := Lib.hid (But.to_ext HE7.out hq2 (Nat.le_of_eq HW8.out))
                  have HO9 := Lib.hid (owns_buts HO7.out (ButS.of_but (M := fun k => k = B8) hq2 rfl) (fun g h e => absurd (e ▸ (owns_lt HO7.out h).2) (Nat.not_succ_le_self _)))
                  clear hq1 hq2
                  refine hK _ _ trivial ?_
                  try simp only [Act.put, List.setIfInBounds_toArray, List.set_cons_zero, List.set_cons_succ]
                  clear hK K
                  refine wpAnyH_done (by kernel_rfl) ?_ _
                  have hwc : wrap64 ((c : Int) + 1) = (c : Int) + 1 := by unfold wrap64; omega
                  go_wp2_with fail
                  simp only [hwc]
                  clear hwc hb1 hb2 hb3 hb4 hcn'
                  refine ⟨⟨c + 1, _, by simp, hcn, ?_, HB9.out, HE9.out⟩, meas_lt hcn⟩
                  rw [HCOL.out]
                  exact HO9.out
                · unfold Oper.wp execOp
                  go_simp
                  refine hK _ _ trivial ?_
                  try simp only [Act.put, List.setIfInBounds_toArray, List.set_cons_zero, List.set_cons_succ]
                  clear hK K
                  have HEp2 : Hid (Ext wr (wA.alloc (.cells #[.int .i64 gp.kind, .int .i64 gp.nulls, .int .i64 gp.low.kind, .int .i64 gp.low.int, .float .f64 gp.low.flt, .string gp.low.text, .int .i64 gp.high.kind, .int .i64 gp.high.int, .float .f64 gp.high.flt, .string gp.high.text] 146))) := Lib.hid (HEp1.out.alloc _)
                  have HBp2 : Hid (BoxAt (wA.alloc (.cells #[.int .i64 gp.kind, .int .i64 gp.nulls, .int .i64 gp.low.kind, .int .i64 gp.low.int, .float .f64 gp.low.flt, .string gp.low.text, .int .i64 gp.high.kind, .int .i64 gp.high.int, .float .f64 gp.high.flt, .string gp.high.text] 146)) B8 [.int .i64 ((e9 : Int) - (i9 : Int)), .slice A8 c c8]) := Lib.hid (HBp1.out.ext ((Ext.refl _).alloc _))
                  refine held_do (i := 1) rfl (by kernel_rfl) rfl fun K hK => ?_
                  refine wp_cell Try.underlying86 rfl (.tmp 35) rfl rfl (by have h := HBp2.out.cells.get 1 _ rfl; simpa using h) ?_
                  refine hK _ _ trivial ?_
                  try simp only [Act.put, List.setIfInBounds_toArray, List.set_cons_zero, List.set_cons_succ]
                  clear hK K
                  refine held_do (i := 9) rfl (by kernel_rfl) rfl fun K hK => ?_
                  refine wp_one (base := B8 + 1) (n := c) (.tmp 36) (.tmp 43) rfl Try.underlying86 info_rngR (by decide) (by decide) rfl (owns_ext HOQ.out HEp2.out) [.int .i64 gp.kind, .int .i64 gp.nulls, .int .i64 gp.low.kind, .int .i64 gp.low.int, .float .f64 gp.low.flt, .string gp.low.text, .int .i64 gp.high.kind, .int .i64 gp.high.int, .float .f64 gp.high.flt, .string gp.high.text] rfl (Rng.one9 rfl) rfl (heap_alloc_new _ _) hc9 (Nat.le_trans (Nat.succ_le_of_lt HBQ.out.lt) HEp2.out.size) ?_
                  intro g7 cap7 w7 ho7 hb7
                  have HE7 : Hid (Ext wo w7) := Lib.hid (hb7.to_ext (HEQ.out.trans HEp2.out) (fun k h => Nat.le_trans (Nat.le_of_eq HW8.out) (Nat.le_trans (Nat.le_succ _) (owns_lt HOQ.out h).2)))
                  have HB7 := Lib.hid (hb7.box (fun h => absurd (owns_lt HOQ.out h).2 (Nat.not_succ_le_self _)) HBp2.out)
                  have HO7 := Lib.hid ho7
                  clear ho7 hb7
                  refine hK _ _ trivial ?_
                  try simp only [Act.put, List.setIfInBounds_toArray, List.set_cons_zero, List.set_cons_succ]
                  clear hK K
                  refine held_run (i := 10) (.pointer (some ⟨B8, 1, none⟩)) rfl (by kernel_rfl) (by kernel_rfl) (by kernel_rfl) (fun _ _ _ h => h) rfl (fun u _ => by go_simp) HS0.out ?_
                  try simp only [Act.put, List.setIfInBounds_toArray, List.set_cons_zero, List.set_cons_succ]
                  refine held_do (i := 11) rfl (by kernel_rfl) rfl fun K hK => ?_
                  refine wp_storeM (f := 1) (vs' := [.slice (some ⟨g7, 0, none⟩) (c + 1) cap7]) (Rng.one9 rfl) HB7.out size_gs (by simp) rfl (.tmp 45) (.tmp 44) rfl rfl rfl ?_
                  intro w8 hq1 hq2
                  simp only [setMany, List.set_cons_zero, List.set_cons_succ] at hq1
                  have HB9 := Lib.hid hq1
                  have HE9 : Hid (Ext wo w8) := Lib.hid (But.to_ext HE7.out hq2 (Nat.le_of_eq HW8.out))
                  have HO9 := Lib.hid (owns_buts HO7.out (ButS.of_but (M := fun k => k = B8) hq2 rfl) (fun g h e => absurd (e ▸ (owns_lt HO7.out h).2) (Nat.not_succ_le_self _)))
                  clear hq1 hq2
                  refine hK _ _ trivial ?_
                  try simp only [Act.put, List.setIfInBounds_toArray, List.set_cons_zero, List.set_cons_succ]
                  clear hK K
                  refine wpAnyH_done (by kernel_rfl) ?_ _
                  have hwc : wrap64 ((c : Int) + 1) = (c : Int) + 1 := by unfold wrap64; omega
                  go_wp2_with fail
                  simp only [hwc]
                  clear hwc hb1 hb2 hb3 hb4 hcn'
                  refine ⟨⟨c + 1, _, by simp, hcn, ?_, HB9.out, HE9.out⟩, meas_lt hcn⟩
                  rw [HCOL.out]
                  exact HO9.out
            · have hcn' : ¬ (c : Int) < c9 := by omega
              obtain rfl : c = n := by omega
              have HEN := Lib.hid (HE.out.trans HEQ.out)
              obtain ⟨ss, hs1, hs2, hs3⟩ := HZ.out
              rw [List.length_map, List.length_range] at hs2
              have HL := Lib.hid hs1; have HS2 := Lib.hid (owns_ext hs2 HEQ.out); have HS3 := Lib.hid hs3
              have HLT : Hid (∀ g, (Value.slice A5 k c5).ownBlock = some g → g < wr.heap.size ∧ w.heap.size ≤ g) := Lib.hid fun g h => owns_lt HS2.out h
              clear hs1 hs2 hs3 HZ
              have hlk : ((List.range k).map (znR rows c)).length = k := by simp
              go_wp2_with (first
                | (refine wpList_ldA (.tmp 8) (vs := [.int .i64 ((e9 : Int) - (i9 : Int)), .slice A8 c c8]) rfl rfl agg_zoneR rfl (HBQ.out.cells) ?_)
                | (refine wpList_one (base := w.heap.size) (n := k) (.tmp 46) (.tmp 48) rfl rfl Try.underlying78 info_zoneR (by decide) (by decide) rfl (owns_ext HS2.out ((Ext.refl _).alloc _)) [.int .i64 ((e9 : Int) - (i9 : Int)), .slice A8 c c8] rfl (Rng.one9 rfl) rfl (heap_alloc_new _ _) (by omega) (by have := HEN.out.size; simp; omega) ?_; intro g6 c6 w6 ho6 hb6; have HO6 := Lib.hid ho6; have HB6 := Lib.hid ((ButS.of_ext ((Ext.refl wr).alloc (.cells #[.int .i64 ((e9 : Int) - (i9 : Int)), .slice A8 c c8] 88))).trans hb6); clear ho6 hb6))
              have HS7 := OwnZ.snoc (zs := (List.range k).map (znR rows c)) (ss := ss) (z := znR rows c k) (s := .slice A8 c c8) (Ty := 88) (Tr := 146) (w := wr) (w' := w6) (base := w.heap.size) (v := .slice A5 k c5) (by decide) HL.out (by rw [hlk]; exact HS2.out) (fun i z s hz hs => owns_ext (HS3.out i z s hz hs) HEQ.out) (by show wr.ownsRow _ _ _ _ (colsRR (chunkR rows k) c).length _; rw [colsRR_length]; exact owns_down HOQ.out (by omega)) (by rw [hlk]; show w6.ownsRow _ _ _ _ _ (_ ++ [.int .i64 ((chunkR rows k).length : Int), _]); rw [show ((chunkR rows k).length : Int) = (e9 : Int) - (i9 : Int) from by rw [HCL.out]; omega]; exact HO6.out) HB6.out
              refine ⟨⟨_, _, k + 1, i9 + 16, rfl, by simp, by have := HIK.out; omega, by have := HIK.out; omega, by rw [List.range_succ, List.map_append]; exact HS7, HB6.out.to_ext HEN.out (fun g h => by have := HLT.out _ h; omega)⟩, by simp [intOf] <;> omega⟩
      · have hlt' : ¬ ((i9 : Int) < (rows.length : Int)) := by omega
        obtain rfl : k = (rows.length + 15) / 16 := by have := HIK.out; omega
        go_wp2_with fail
        go_ret
        exact ⟨_, rfl, HZ.out, HE.out⟩
end Go.Proofs.Ytlcdjaclahhdnaa
