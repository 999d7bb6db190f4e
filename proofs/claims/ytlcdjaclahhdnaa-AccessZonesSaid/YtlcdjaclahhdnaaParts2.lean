/- The call of tabularyref22.parts where the head's fields are right; of Formed. Printed by wip/tools/gen_parts2.py. -/
import Derived.Test.YtlcdjaclahhdnaaParts
import Derived.Test.YtlcdjaclahhdnaaZoneA
import Derived.Deep.DeepCutAuto
import Derived.Deep.CutBlock
namespace Go.Proofs.Ytlcdjaclahhdnaa
open Go.RowKit
set_option linter.unusedSimpArgs false
set_option linter.unusedVariables false
attribute [local irreducible] wpQuiet wpList Code.wp

set_option maxRecDepth 100000 in
set_option maxHeartbeats 20000000 in
theorem parts_mid (k r c d : Int) (v : Val) (l : List Ex) (A : Option Addr) (cap : Nat) (w : World) (hv : v.Ok) (hlm : l.length ≤ 9223372036854775807) (hks : ExsIn w (.slice A l.length cap) l) (hd : 0 ≤ d ∧ d ≤ 24) (h1 : kidsOf k = (l.length : Int)) (hr : 0 ≤ r ∧ r ≤ 31) (hc : 0 ≤ c ∧ c ≤ 31) (hrc : k = 1 ∨ (r = 0 ∧ c = 0))
    (ih : ∀ e ∈ l, ∀ (s : Value) (d : Int) (w : World), Ex.In w e s → 0 ≤ d → d ≤ 1000 → Calls Try.prog 129 #[.agg (e.cells s).toArray, .int .i64 d] w fun ev w' => ev = .returned (.int .i64 (e.parts d)) ∧ Ext w w') :
    PartsCall k r c v l A cap d w (if (v.right && (k == 2 || v.kind == 0)) = false then 401 else Exs.parts l (d + 1) 1) := by
  unfold PartsCall
  have hb0 : BoxAt (w.alloc (.cells #[.int .i64 k, .int .i64 r, .int .i64 c, .int .i64 v.kind, .int .i64 v.int, .float .f64 v.flt, .string v.text, .slice A l.length cap] 27)) w.heap.size [.int .i64 k, .int .i64 r, .int .i64 c, .int .i64 v.kind, .int .i64 v.int, .float .f64 v.flt, .string v.text, .slice A l.length cap] := BoxAt.new rfl rfl
  have H0 := Lib.hid hb0
  have HE0 := Lib.hid ((Ext.refl w).alloc (.cells #[.int .i64 k, .int .i64 r, .int .i64 c, .int .i64 v.kind, .int .i64 v.int, .float .f64 v.flt, .string v.text, .slice A l.length cap] 27))
  have q0 : decide (24 < d) = false := by simp; omega
  have q1 : (kidsOf k != (l.length : Int)) = false := by simp [h1]
  have q2 : decide (r < 0) = false := by simp; omega
  have q3 : decide (31 < r) = false := by simp; omega
  have q4 : decide (c < 0) = false := by simp; omega
  have q5 : decide (31 < c) = false := by simp; omega
  have HRI := Lib.hid (fun w => rright_of v w hv.flt)
  have HIN := Lib.hid hks; have IH := Lib.hid ih
  have HD := Lib.hid hd
  have hd0 := hd.1; have hd1 := hd.2
  clear hb0 hr hc hv hks ih h1 hd
  obtain ⟨z, hz⟩ : ∃ z, z = (if (v.right && (k == 2 || v.kind == 0)) = false then 401 else Exs.parts l (d + 1) 1) := ⟨_, rfl⟩
  rw [← hz]
  have HZ := Lib.hid hz; clear hz
  by_cases k1 : k = 1
  · have q6 : (k != 1) = false := by simp [k1]
    clear hrc k1
    go_enter Try.func129, Try.ntmps129
    go_wp2_with fail
    refine wp_region_ext (by kernel_rfl) (by kernel_rfl) ?_; (repeat (first | (simp only [q0]) | (simp only [q1]) | (simp only [q2]) | (simp only [q3]) | (simp only [q4]) | (simp only [q5]) | (simp only [q6]) | (refine quiet_cell2 (.tmp 11) rfl rfl Try.underlying3 rfl rfl (fun w' hw => (H0.out.ext hw).cells.get 0 _ rfl) ?_; simp only [Act.put, List.setIfInBounds_toArray, List.set_cons_zero, List.set_cons_succ]) | (refine quiet_cell2 (.tmp 14) rfl rfl Try.underlying25 rfl rfl (fun w' hw => (H0.out.ext hw).cells.get 7 _ rfl) ?_; simp only [Act.put, List.setIfInBounds_toArray, List.set_cons_zero, List.set_cons_succ]) | (refine quiet_cell2 (.tmp 20) rfl rfl Try.underlying3 rfl rfl (fun w' hw => (H0.out.ext hw).cells.get 1 _ rfl) ?_; simp only [Act.put, List.setIfInBounds_toArray, List.set_cons_zero, List.set_cons_succ]) | (refine quiet_cell2 (.tmp 25) rfl rfl Try.underlying3 rfl rfl (fun w' hw => (H0.out.ext hw).cells.get 1 _ rfl) ?_; simp only [Act.put, List.setIfInBounds_toArray, List.set_cons_zero, List.set_cons_succ]) | (refine quiet_cell2 (.tmp 30) rfl rfl Try.underlying3 rfl rfl (fun w' hw => (H0.out.ext hw).cells.get 2 _ rfl) ?_; simp only [Act.put, List.setIfInBounds_toArray, List.set_cons_zero, List.set_cons_succ]) | (refine quiet_cell2 (.tmp 35) rfl rfl Try.underlying3 rfl rfl (fun w' hw => (H0.out.ext hw).cells.get 2 _ rfl) ?_; simp only [Act.put, List.setIfInBounds_toArray, List.set_cons_zero, List.set_cons_succ]) | (refine quiet_cell2 (.tmp 40) rfl rfl Try.underlying3 rfl rfl (fun w' hw => (H0.out.ext hw).cells.get 0 _ rfl) ?_; simp only [Act.put, List.setIfInBounds_toArray, List.set_cons_zero, List.set_cons_succ]) | (refine quiet_cell2 (.tmp 44) rfl rfl Try.underlying3 rfl rfl (fun w' hw => (H0.out.ext hw).cells.get 1 _ rfl) ?_; simp only [Act.put, List.setIfInBounds_toArray, List.set_cons_zero, List.set_cons_succ]) | (refine quiet_cell2 (.tmp 48) rfl rfl Try.underlying3 rfl rfl (fun w' hw => (H0.out.ext hw).cells.get 2 _ rfl) ?_; simp only [Act.put, List.setIfInBounds_toArray, List.set_cons_zero, List.set_cons_succ]) | (refine wpQuiet_step (fun K hK => ?_); go_simp; first | (refine hK _ ?_; clear hK K) | (refine ⟨_, fun w hw => rfl, hK _ ?_⟩; clear hK K) | (apply Exists.intro; refine ⟨fun w hw => ?_, hK _ ?_⟩; (focus first | (go_at_call 150; exact (rkids_of _ _).mono fun _ _ ⟨h1, h2⟩ => ⟨h1, hw.trans h2⟩)); clear hK K)))); refine wpQuiet_nil ?_
    intro w1 hE1
    go_upto_region 4 with fail
    have HB := Lib.hid (H0.out.ext hE1)
    have HE1 := Lib.hid (HE0.out.trans hE1)
    clear H0 HE0 hE1 q0 q1 q2 q3 q4 q5
    obtain ⟨a0, a1, a2, a3, a4, a5, a6, a7, -⟩ := HB.out.cells
    simp only [Nat.zero_add, Nat.reduceAdd] at a0 a1 a2 a3 a4 a5 a6 a7
    have HAV : Hid (At w1 w.heap.size 3 [.int .i64 v.kind, .int .i64 v.int, .float .f64 v.flt, .string v.text]) := Lib.hid ⟨a3, a4, a5, a6, trivial⟩
    clear q6
    try clear q7 q8
    cases hrt : v.right
    · rw [hrt] at HRI
      have HZ2 : Hid (z = 401) := Lib.hid (by rw [HZ.out, hrt]; rfl)
      have s1 : (0 : Int) = 0 := rfl
      clear HZ hrt s1
      go_wp2_with (first
        | (refine wpList_ldA (.tmp 55) (vs := [.int .i64 v.kind, .int .i64 v.int, .float .f64 v.flt, .string v.text]) rfl rfl agg_val rfl HAV.out ?_)
        | (go_at_call 130; refine (HRI.out _).mono ?_; rintro ev w2 ⟨rfl, hb2⟩; have HB2 := Lib.hid (HB.out.ext hb2); have HE2 := Lib.hid (HE1.out.trans hb2); obtain ⟨a0, a1, a2, a3, a4, a5, a6, a7, -⟩ := HB2.out.cells; simp only [Nat.zero_add, Nat.reduceAdd] at a0 a1 a2 a3 a4 a5 a6 a7; clear hb2))
      go_ret
      exact ⟨by rw [HZ2.out]; rfl, HE2.out⟩
    rw [hrt] at HRI
    cases h2 : (k == 2)
    · have s1 : (k != 2) = true := by simp [bne, h2]
      cases h0 : (v.kind == 0)
      · have s2 : (v.kind != 0) = true := by simp [bne, h0]
        have HZ2 : Hid (z = 401) := Lib.hid (by rw [HZ.out, hrt, h2, h0]; rfl)
        clear HZ hrt h2 h0
        go_wp2_with (first
          | (refine wpList_ldA (.tmp 55) (vs := [.int .i64 v.kind, .int .i64 v.int, .float .f64 v.flt, .string v.text]) rfl rfl agg_val rfl HAV.out ?_)
          | (go_at_call 130; refine (HRI.out _).mono ?_; rintro ev w2 ⟨rfl, hb2⟩; have HB2 := Lib.hid (HB.out.ext hb2); have HE2 := Lib.hid (HE1.out.trans hb2); obtain ⟨a0, a1, a2, a3, a4, a5, a6, a7, -⟩ := HB2.out.cells; simp only [Nat.zero_add, Nat.reduceAdd] at a0 a1 a2 a3 a4 a5 a6 a7; clear hb2))
        go_ret
        exact ⟨by rw [HZ2.out]; rfl, HE2.out⟩
      · have s2 : (v.kind != 0) = false := by simp [bne, h0]
        have HZ2 : Hid (z = Exs.parts (l.drop 0) (d + 1) 1) := Lib.hid (by rw [HZ.out, hrt, h2, h0]; rfl)
        clear HZ hrt h2 h0
        go_wp2_with (first
          | (refine wpList_ldA (.tmp 55) (vs := [.int .i64 v.kind, .int .i64 v.int, .float .f64 v.flt, .string v.text]) rfl rfl agg_val rfl HAV.out ?_)
          | (go_at_call 130; refine (HRI.out _).mono ?_; rintro ev w2 ⟨rfl, hb2⟩; have HB2 := Lib.hid (HB.out.ext hb2); have HE2 := Lib.hid (HE1.out.trans hb2); obtain ⟨a0, a1, a2, a3, a4, a5, a6, a7, -⟩ := HB2.out.cells; simp only [Nat.zero_add, Nat.reduceAdd] at a0 a1 a2 a3 a4 a5 a6 a7; clear hb2))
        go_loopw [6, 7] (fun x y wr => ∃ (i : Nat) (n : Int), y = .int .i64 (i : Int) ∧ x = .int .i64 n ∧ i ≤ l.length ∧ 1 ≤ n ∧ n ≤ 400 ∧ z = Exs.parts (l.drop i) (d + 1) n ∧ BoxAt wr w.heap.size [.int .i64 k, .int .i64 r, .int .i64 c, .int .i64 v.kind, .int .i64 v.int, .float .f64 v.flt, .string v.text, .slice A l.length cap] ∧ Ext w wr) (fun _ y _ => l.length - (intOf y).toNat)
        case atStart => exact ⟨0, 1, rfl, rfl, by omega, by omega, by omega, HZ2.out, HB2.out, HE2.out⟩
        case round =>
          clear a0 a1 a2 a3 a4 a5 a6 a7
          rename_i hrel
          obtain ⟨i, n, rfl, rfl, hi, hn1, hn4, hz, hb, hE⟩ := hrel
          have HQ := Lib.hid hz; have HB := Lib.hid hb
          have b7 := hb.cells.get 7 _ rfl
          simp only [Nat.zero_add] at b7
          clear hz hb
          by_cases hlt : i < l.length
          · have hlt' : (i : Int) < (l.length : Int) := by omega
            have hw : wrap64 ((i : Int) + 1) = (i : Int) + 1 := by unfold wrap64; omega
            obtain ⟨g, o, s', rfl, -, hat, hin2, hg⟩ := (HIN.out.ext hE).get i hlt
            have HDP := Lib.hid (Exs.parts_drop hlt (d + 1) n)
            have hrg := Ex.parts_range l[i] (d + 1)
            obtain ⟨-, A', cap', rfl, -⟩ := (Ex.In.mk_inv hin2).2.2.2.2
            have hcall := Lib.hid (IH.out l[i] (List.getElem_mem hlt) (.slice A' l[i].kids.length cap') (d + 1) wr hin2 (by omega) (by omega))
            have HAT := Lib.hid hat
            clear hat hin2 IH
            unfold Ex.cells exCells at HAT hcall
            generalize l[i] = e at *
            generalize e.parts (d + 1) = m at *
            by_cases hbig : 400 < n + m
            · go_wp2_with (first
                | (refine wpList_ixS (.tmp 80) _ (i := i) rfl rfl Try.underlying25 size_ex rfl rfl hlt ?_)
                | (refine wpList_ldA (.tmp 82) (vs := [.int .i64 e.kind, .int .i64 e.rel, .int .i64 e.col, .int .i64 e.const.kind, .int .i64 e.const.int, .float .f64 e.const.flt, .string e.const.text, .slice A' e.kids.length cap']) rfl rfl agg_ex rfl HAT.out ?_)
                | (go_at_call 129; refine hcall.out.mono ?_; rintro ev w3 ⟨rfl, hb3⟩))
              go_ret
              refine ⟨?_, hE.trans hb3⟩
              rw [HQ.out, HDP.out, if_pos hbig]; rfl
            · go_wp2_with (first
                | (refine wpList_ixS (.tmp 80) _ (i := i) rfl rfl Try.underlying25 size_ex rfl rfl hlt ?_)
                | (refine wpList_ldA (.tmp 82) (vs := [.int .i64 e.kind, .int .i64 e.rel, .int .i64 e.col, .int .i64 e.const.kind, .int .i64 e.const.int, .float .f64 e.const.flt, .string e.const.text, .slice A' e.kids.length cap']) rfl rfl agg_ex rfl HAT.out ?_)
                | (go_at_call 129; refine hcall.out.mono ?_; rintro ev w3 ⟨rfl, hb3⟩))
              refine ⟨⟨i + 1, n + m, by simp, by simp, by omega, by omega, by omega, ?_, HB.out.ext hb3, hE.trans hb3⟩, by simp [intOf] <;> omega⟩
              rw [HQ.out, HDP.out, if_neg (by omega)]
          · have hlt' : ¬ ((i : Int) < (l.length : Int)) := by omega
            obtain rfl : i = l.length := by omega
            go_wp2_with fail
            go_ret
            refine ⟨?_, hE⟩
            rw [HQ.out, List.drop_of_length_le (Nat.le_refl _)]
            simp only [Exs.parts]; rfl
    · have s1 : (k != 2) = false := by simp [bne, h2]
      have HZ2 : Hid (z = Exs.parts (l.drop 0) (d + 1) 1) := Lib.hid (by rw [HZ.out, hrt, h2]; rfl)
      clear HZ hrt h2
      go_wp2_with (first
        | (refine wpList_ldA (.tmp 55) (vs := [.int .i64 v.kind, .int .i64 v.int, .float .f64 v.flt, .string v.text]) rfl rfl agg_val rfl HAV.out ?_)
        | (go_at_call 130; refine (HRI.out _).mono ?_; rintro ev w2 ⟨rfl, hb2⟩; have HB2 := Lib.hid (HB.out.ext hb2); have HE2 := Lib.hid (HE1.out.trans hb2); obtain ⟨a0, a1, a2, a3, a4, a5, a6, a7, -⟩ := HB2.out.cells; simp only [Nat.zero_add, Nat.reduceAdd] at a0 a1 a2 a3 a4 a5 a6 a7; clear hb2))
      go_loopw [6, 7] (fun x y wr => ∃ (i : Nat) (n : Int), y = .int .i64 (i : Int) ∧ x = .int .i64 n ∧ i ≤ l.length ∧ 1 ≤ n ∧ n ≤ 400 ∧ z = Exs.parts (l.drop i) (d + 1) n ∧ BoxAt wr w.heap.size [.int .i64 k, .int .i64 r, .int .i64 c, .int .i64 v.kind, .int .i64 v.int, .float .f64 v.flt, .string v.text, .slice A l.length cap] ∧ Ext w wr) (fun _ y _ => l.length - (intOf y).toNat)
      case atStart => exact ⟨0, 1, rfl, rfl, by omega, by omega, by omega, HZ2.out, HB2.out, HE2.out⟩
      case round =>
        clear a0 a1 a2 a3 a4 a5 a6 a7
        rename_i hrel
        obtain ⟨i, n, rfl, rfl, hi, hn1, hn4, hz, hb, hE⟩ := hrel
        have HQ := Lib.hid hz; have HB := Lib.hid hb
        have b7 := hb.cells.get 7 _ rfl
        simp only [Nat.zero_add] at b7
        clear hz hb
        by_cases hlt : i < l.length
        · have hlt' : (i : Int) < (l.length : Int) := by omega
          have hw : wrap64 ((i : Int) + 1) = (i : Int) + 1 := by unfold wrap64; omega
          obtain ⟨g, o, s', rfl, -, hat, hin2, hg⟩ := (HIN.out.ext hE).get i hlt
          have HDP := Lib.hid (Exs.parts_drop hlt (d + 1) n)
          have hrg := Ex.parts_range l[i] (d + 1)
          obtain ⟨-, A', cap', rfl, -⟩ := (Ex.In.mk_inv hin2).2.2.2.2
          have hcall := Lib.hid (IH.out l[i] (List.getElem_mem hlt) (.slice A' l[i].kids.length cap') (d + 1) wr hin2 (by omega) (by omega))
          have HAT := Lib.hid hat
          clear hat hin2 IH
          unfold Ex.cells exCells at HAT hcall
          generalize l[i] = e at *
          generalize e.parts (d + 1) = m at *
          by_cases hbig : 400 < n + m
          · go_wp2_with (first
              | (refine wpList_ixS (.tmp 80) _ (i := i) rfl rfl Try.underlying25 size_ex rfl rfl hlt ?_)
              | (refine wpList_ldA (.tmp 82) (vs := [.int .i64 e.kind, .int .i64 e.rel, .int .i64 e.col, .int .i64 e.const.kind, .int .i64 e.const.int, .float .f64 e.const.flt, .string e.const.text, .slice A' e.kids.length cap']) rfl rfl agg_ex rfl HAT.out ?_)
              | (go_at_call 129; refine hcall.out.mono ?_; rintro ev w3 ⟨rfl, hb3⟩))
            go_ret
            refine ⟨?_, hE.trans hb3⟩
            rw [HQ.out, HDP.out, if_pos hbig]; rfl
          · go_wp2_with (first
              | (refine wpList_ixS (.tmp 80) _ (i := i) rfl rfl Try.underlying25 size_ex rfl rfl hlt ?_)
              | (refine wpList_ldA (.tmp 82) (vs := [.int .i64 e.kind, .int .i64 e.rel, .int .i64 e.col, .int .i64 e.const.kind, .int .i64 e.const.int, .float .f64 e.const.flt, .string e.const.text, .slice A' e.kids.length cap']) rfl rfl agg_ex rfl HAT.out ?_)
              | (go_at_call 129; refine hcall.out.mono ?_; rintro ev w3 ⟨rfl, hb3⟩))
            refine ⟨⟨i + 1, n + m, by simp, by simp, by omega, by omega, by omega, ?_, HB.out.ext hb3, hE.trans hb3⟩, by simp [intOf] <;> omega⟩
            rw [HQ.out, HDP.out, if_neg (by omega)]
        · have hlt' : ¬ ((i : Int) < (l.length : Int)) := by omega
          obtain rfl : i = l.length := by omega
          go_wp2_with fail
          go_ret
          refine ⟨?_, hE⟩
          rw [HQ.out, List.drop_of_length_le (Nat.le_refl _)]
          simp only [Exs.parts]; rfl
  · obtain ⟨hr0, hc0⟩ := hrc.resolve_left k1
    have q6 : (k != 1) = true := by simpa using k1
    have q7 : (r != 0) = false := by simp [hr0]
    have q8 : (c != 0) = false := by simp [hc0]
    clear hrc k1 hr0 hc0
    go_enter Try.func129, Try.ntmps129
    go_wp2_with fail
    refine wp_region_ext (by kernel_rfl) (by kernel_rfl) ?_; (repeat (first | (simp only [q0]) | (simp only [q1]) | (simp only [q2]) | (simp only [q3]) | (simp only [q4]) | (simp only [q5]) | (simp only [q6]) | (simp only [q7]) | (simp only [q8]) | (refine quiet_cell2 (.tmp 11) rfl rfl Try.underlying3 rfl rfl (fun w' hw => (H0.out.ext hw).cells.get 0 _ rfl) ?_; simp only [Act.put, List.setIfInBounds_toArray, List.set_cons_zero, List.set_cons_succ]) | (refine quiet_cell2 (.tmp 14) rfl rfl Try.underlying25 rfl rfl (fun w' hw => (H0.out.ext hw).cells.get 7 _ rfl) ?_; simp only [Act.put, List.setIfInBounds_toArray, List.set_cons_zero, List.set_cons_succ]) | (refine quiet_cell2 (.tmp 20) rfl rfl Try.underlying3 rfl rfl (fun w' hw => (H0.out.ext hw).cells.get 1 _ rfl) ?_; simp only [Act.put, List.setIfInBounds_toArray, List.set_cons_zero, List.set_cons_succ]) | (refine quiet_cell2 (.tmp 25) rfl rfl Try.underlying3 rfl rfl (fun w' hw => (H0.out.ext hw).cells.get 1 _ rfl) ?_; simp only [Act.put, List.setIfInBounds_toArray, List.set_cons_zero, List.set_cons_succ]) | (refine quiet_cell2 (.tmp 30) rfl rfl Try.underlying3 rfl rfl (fun w' hw => (H0.out.ext hw).cells.get 2 _ rfl) ?_; simp only [Act.put, List.setIfInBounds_toArray, List.set_cons_zero, List.set_cons_succ]) | (refine quiet_cell2 (.tmp 35) rfl rfl Try.underlying3 rfl rfl (fun w' hw => (H0.out.ext hw).cells.get 2 _ rfl) ?_; simp only [Act.put, List.setIfInBounds_toArray, List.set_cons_zero, List.set_cons_succ]) | (refine quiet_cell2 (.tmp 40) rfl rfl Try.underlying3 rfl rfl (fun w' hw => (H0.out.ext hw).cells.get 0 _ rfl) ?_; simp only [Act.put, List.setIfInBounds_toArray, List.set_cons_zero, List.set_cons_succ]) | (refine quiet_cell2 (.tmp 44) rfl rfl Try.underlying3 rfl rfl (fun w' hw => (H0.out.ext hw).cells.get 1 _ rfl) ?_; simp only [Act.put, List.setIfInBounds_toArray, List.set_cons_zero, List.set_cons_succ]) | (refine quiet_cell2 (.tmp 48) rfl rfl Try.underlying3 rfl rfl (fun w' hw => (H0.out.ext hw).cells.get 2 _ rfl) ?_; simp only [Act.put, List.setIfInBounds_toArray, List.set_cons_zero, List.set_cons_succ]) | (refine wpQuiet_step (fun K hK => ?_); go_simp; first | (refine hK _ ?_; clear hK K) | (refine ⟨_, fun w hw => rfl, hK _ ?_⟩; clear hK K) | (apply Exists.intro; refine ⟨fun w hw => ?_, hK _ ?_⟩; (focus first | (go_at_call 150; exact (rkids_of _ _).mono fun _ _ ⟨h1, h2⟩ => ⟨h1, hw.trans h2⟩)); clear hK K)))); refine wpQuiet_nil ?_
    intro w1 hE1
    go_upto_region 4 with fail
    have HB := Lib.hid (H0.out.ext hE1)
    have HE1 := Lib.hid (HE0.out.trans hE1)
    clear H0 HE0 hE1 q0 q1 q2 q3 q4 q5
    obtain ⟨a0, a1, a2, a3, a4, a5, a6, a7, -⟩ := HB.out.cells
    simp only [Nat.zero_add, Nat.reduceAdd] at a0 a1 a2 a3 a4 a5 a6 a7
    have HAV : Hid (At w1 w.heap.size 3 [.int .i64 v.kind, .int .i64 v.int, .float .f64 v.flt, .string v.text]) := Lib.hid ⟨a3, a4, a5, a6, trivial⟩
    clear q6
    try clear q7 q8
    cases hrt : v.right
    · rw [hrt] at HRI
      have HZ2 : Hid (z = 401) := Lib.hid (by rw [HZ.out, hrt]; rfl)
      have s1 : (0 : Int) = 0 := rfl
      clear HZ hrt s1
      go_wp2_with (first
        | (refine wpList_ldA (.tmp 55) (vs := [.int .i64 v.kind, .int .i64 v.int, .float .f64 v.flt, .string v.text]) rfl rfl agg_val rfl HAV.out ?_)
        | (go_at_call 130; refine (HRI.out _).mono ?_; rintro ev w2 ⟨rfl, hb2⟩; have HB2 := Lib.hid (HB.out.ext hb2); have HE2 := Lib.hid (HE1.out.trans hb2); obtain ⟨a0, a1, a2, a3, a4, a5, a6, a7, -⟩ := HB2.out.cells; simp only [Nat.zero_add, Nat.reduceAdd] at a0 a1 a2 a3 a4 a5 a6 a7; clear hb2))
      go_ret
      exact ⟨by rw [HZ2.out]; rfl, HE2.out⟩
    rw [hrt] at HRI
    cases h2 : (k == 2)
    · have s1 : (k != 2) = true := by simp [bne, h2]
      cases h0 : (v.kind == 0)
      · have s2 : (v.kind != 0) = true := by simp [bne, h0]
        have HZ2 : Hid (z = 401) := Lib.hid (by rw [HZ.out, hrt, h2, h0]; rfl)
        clear HZ hrt h2 h0
        go_wp2_with (first
          | (refine wpList_ldA (.tmp 55) (vs := [.int .i64 v.kind, .int .i64 v.int, .float .f64 v.flt, .string v.text]) rfl rfl agg_val rfl HAV.out ?_)
          | (go_at_call 130; refine (HRI.out _).mono ?_; rintro ev w2 ⟨rfl, hb2⟩; have HB2 := Lib.hid (HB.out.ext hb2); have HE2 := Lib.hid (HE1.out.trans hb2); obtain ⟨a0, a1, a2, a3, a4, a5, a6, a7, -⟩ := HB2.out.cells; simp only [Nat.zero_add, Nat.reduceAdd] at a0 a1 a2 a3 a4 a5 a6 a7; clear hb2))
        go_ret
        exact ⟨by rw [HZ2.out]; rfl, HE2.out⟩
      · have s2 : (v.kind != 0) = false := by simp [bne, h0]
        have HZ2 : Hid (z = Exs.parts (l.drop 0) (d + 1) 1) := Lib.hid (by rw [HZ.out, hrt, h2, h0]; rfl)
        clear HZ hrt h2 h0
        go_wp2_with (first
          | (refine wpList_ldA (.tmp 55) (vs := [.int .i64 v.kind, .int .i64 v.int, .float .f64 v.flt, .string v.text]) rfl rfl agg_val rfl HAV.out ?_)
          | (go_at_call 130; refine (HRI.out _).mono ?_; rintro ev w2 ⟨rfl, hb2⟩; have HB2 := Lib.hid (HB.out.ext hb2); have HE2 := Lib.hid (HE1.out.trans hb2); obtain ⟨a0, a1, a2, a3, a4, a5, a6, a7, -⟩ := HB2.out.cells; simp only [Nat.zero_add, Nat.reduceAdd] at a0 a1 a2 a3 a4 a5 a6 a7; clear hb2))
        go_loopw [6, 7] (fun x y wr => ∃ (i : Nat) (n : Int), y = .int .i64 (i : Int) ∧ x = .int .i64 n ∧ i ≤ l.length ∧ 1 ≤ n ∧ n ≤ 400 ∧ z = Exs.parts (l.drop i) (d + 1) n ∧ BoxAt wr w.heap.size [.int .i64 k, .int .i64 r, .int .i64 c, .int .i64 v.kind, .int .i64 v.int, .float .f64 v.flt, .string v.text, .slice A l.length cap] ∧ Ext w wr) (fun _ y _ => l.length - (intOf y).toNat)
        case atStart => exact ⟨0, 1, rfl, rfl, by omega, by omega, by omega, HZ2.out, HB2.out, HE2.out⟩
        case round =>
          clear a0 a1 a2 a3 a4 a5 a6 a7
          rename_i hrel
          obtain ⟨i, n, rfl, rfl, hi, hn1, hn4, hz, hb, hE⟩ := hrel
          have HQ := Lib.hid hz; have HB := Lib.hid hb
          have b7 := hb.cells.get 7 _ rfl
          simp only [Nat.zero_add] at b7
          clear hz hb
          by_cases hlt : i < l.length
          · have hlt' : (i : Int) < (l.length : Int) := by omega
            have hw : wrap64 ((i : Int) + 1) = (i : Int) + 1 := by unfold wrap64; omega
            obtain ⟨g, o, s', rfl, -, hat, hin2, hg⟩ := (HIN.out.ext hE).get i hlt
            have HDP := Lib.hid (Exs.parts_drop hlt (d + 1) n)
            have hrg := Ex.parts_range l[i] (d + 1)
            obtain ⟨-, A', cap', rfl, -⟩ := (Ex.In.mk_inv hin2).2.2.2.2
            have hcall := Lib.hid (IH.out l[i] (List.getElem_mem hlt) (.slice A' l[i].kids.length cap') (d + 1) wr hin2 (by omega) (by omega))
            have HAT := Lib.hid hat
            clear hat hin2 IH
            unfold Ex.cells exCells at HAT hcall
            generalize l[i] = e at *
            generalize e.parts (d + 1) = m at *
            by_cases hbig : 400 < n + m
            · go_wp2_with (first
                | (refine wpList_ixS (.tmp 80) _ (i := i) rfl rfl Try.underlying25 size_ex rfl rfl hlt ?_)
                | (refine wpList_ldA (.tmp 82) (vs := [.int .i64 e.kind, .int .i64 e.rel, .int .i64 e.col, .int .i64 e.const.kind, .int .i64 e.const.int, .float .f64 e.const.flt, .string e.const.text, .slice A' e.kids.length cap']) rfl rfl agg_ex rfl HAT.out ?_)
                | (go_at_call 129; refine hcall.out.mono ?_; rintro ev w3 ⟨rfl, hb3⟩))
              go_ret
              refine ⟨?_, hE.trans hb3⟩
              rw [HQ.out, HDP.out, if_pos hbig]; rfl
            · go_wp2_with (first
                | (refine wpList_ixS (.tmp 80) _ (i := i) rfl rfl Try.underlying25 size_ex rfl rfl hlt ?_)
                | (refine wpList_ldA (.tmp 82) (vs := [.int .i64 e.kind, .int .i64 e.rel, .int .i64 e.col, .int .i64 e.const.kind, .int .i64 e.const.int, .float .f64 e.const.flt, .string e.const.text, .slice A' e.kids.length cap']) rfl rfl agg_ex rfl HAT.out ?_)
                | (go_at_call 129; refine hcall.out.mono ?_; rintro ev w3 ⟨rfl, hb3⟩))
              refine ⟨⟨i + 1, n + m, by simp, by simp, by omega, by omega, by omega, ?_, HB.out.ext hb3, hE.trans hb3⟩, by simp [intOf] <;> omega⟩
              rw [HQ.out, HDP.out, if_neg (by omega)]
          · have hlt' : ¬ ((i : Int) < (l.length : Int)) := by omega
            obtain rfl : i = l.length := by omega
            go_wp2_with fail
            go_ret
            refine ⟨?_, hE⟩
            rw [HQ.out, List.drop_of_length_le (Nat.le_refl _)]
            simp only [Exs.parts]; rfl
    · have s1 : (k != 2) = false := by simp [bne, h2]
      have HZ2 : Hid (z = Exs.parts (l.drop 0) (d + 1) 1) := Lib.hid (by rw [HZ.out, hrt, h2]; rfl)
      clear HZ hrt h2
      go_wp2_with (first
        | (refine wpList_ldA (.tmp 55) (vs := [.int .i64 v.kind, .int .i64 v.int, .float .f64 v.flt, .string v.text]) rfl rfl agg_val rfl HAV.out ?_)
        | (go_at_call 130; refine (HRI.out _).mono ?_; rintro ev w2 ⟨rfl, hb2⟩; have HB2 := Lib.hid (HB.out.ext hb2); have HE2 := Lib.hid (HE1.out.trans hb2); obtain ⟨a0, a1, a2, a3, a4, a5, a6, a7, -⟩ := HB2.out.cells; simp only [Nat.zero_add, Nat.reduceAdd] at a0 a1 a2 a3 a4 a5 a6 a7; clear hb2))
      go_loopw [6, 7] (fun x y wr => ∃ (i : Nat) (n : Int), y = .int .i64 (i : Int) ∧ x = .int .i64 n ∧ i ≤ l.length ∧ 1 ≤ n ∧ n ≤ 400 ∧ z = Exs.parts (l.drop i) (d + 1) n ∧ BoxAt wr w.heap.size [.int .i64 k, .int .i64 r, .int .i64 c, .int .i64 v.kind, .int .i64 v.int, .float .f64 v.flt, .string v.text, .slice A l.length cap] ∧ Ext w wr) (fun _ y _ => l.length - (intOf y).toNat)
      case atStart => exact ⟨0, 1, rfl, rfl, by omega, by omega, by omega, HZ2.out, HB2.out, HE2.out⟩
      case round =>
        clear a0 a1 a2 a3 a4 a5 a6 a7
        rename_i hrel
        obtain ⟨i, n, rfl, rfl, hi, hn1, hn4, hz, hb, hE⟩ := hrel
        have HQ := Lib.hid hz; have HB := Lib.hid hb
        have b7 := hb.cells.get 7 _ rfl
        simp only [Nat.zero_add] at b7
        clear hz hb
        by_cases hlt : i < l.length
        · have hlt' : (i : Int) < (l.length : Int) := by omega
          have hw : wrap64 ((i : Int) + 1) = (i : Int) + 1 := by unfold wrap64; omega
          obtain ⟨g, o, s', rfl, -, hat, hin2, hg⟩ := (HIN.out.ext hE).get i hlt
          have HDP := Lib.hid (Exs.parts_drop hlt (d + 1) n)
          have hrg := Ex.parts_range l[i] (d + 1)
          obtain ⟨-, A', cap', rfl, -⟩ := (Ex.In.mk_inv hin2).2.2.2.2
          have hcall := Lib.hid (IH.out l[i] (List.getElem_mem hlt) (.slice A' l[i].kids.length cap') (d + 1) wr hin2 (by omega) (by omega))
          have HAT := Lib.hid hat
          clear hat hin2 IH
          unfold Ex.cells exCells at HAT hcall
          generalize l[i] = e at *
          generalize e.parts (d + 1) = m at *
          by_cases hbig : 400 < n + m
          · go_wp2_with (first
              | (refine wpList_ixS (.tmp 80) _ (i := i) rfl rfl Try.underlying25 size_ex rfl rfl hlt ?_)
              | (refine wpList_ldA (.tmp 82) (vs := [.int .i64 e.kind, .int .i64 e.rel, .int .i64 e.col, .int .i64 e.const.kind, .int .i64 e.const.int, .float .f64 e.const.flt, .string e.const.text, .slice A' e.kids.length cap']) rfl rfl agg_ex rfl HAT.out ?_)
              | (go_at_call 129; refine hcall.out.mono ?_; rintro ev w3 ⟨rfl, hb3⟩))
            go_ret
            refine ⟨?_, hE.trans hb3⟩
            rw [HQ.out, HDP.out, if_pos hbig]; rfl
          · go_wp2_with (first
              | (refine wpList_ixS (.tmp 80) _ (i := i) rfl rfl Try.underlying25 size_ex rfl rfl hlt ?_)
              | (refine wpList_ldA (.tmp 82) (vs := [.int .i64 e.kind, .int .i64 e.rel, .int .i64 e.col, .int .i64 e.const.kind, .int .i64 e.const.int, .float .f64 e.const.flt, .string e.const.text, .slice A' e.kids.length cap']) rfl rfl agg_ex rfl HAT.out ?_)
              | (go_at_call 129; refine hcall.out.mono ?_; rintro ev w3 ⟨rfl, hb3⟩))
            refine ⟨⟨i + 1, n + m, by simp, by simp, by omega, by omega, by omega, ?_, HB.out.ext hb3, hE.trans hb3⟩, by simp [intOf] <;> omega⟩
            rw [HQ.out, HDP.out, if_neg (by omega)]
        · have hlt' : ¬ ((i : Int) < (l.length : Int)) := by omega
          obtain rfl : i = l.length := by omega
          go_wp2_with fail
          go_ret
          refine ⟨?_, hE⟩
          rw [HQ.out, List.drop_of_length_le (Nat.le_refl _)]
          simp only [Exs.parts]; rfl

theorem rparts_of : ∀ (e : Ex) (s : Value) (d : Int) (w : World), Ex.In w e s → 0 ≤ d → d ≤ 1000 →
    Calls Try.prog 129 #[.agg (e.cells s).toArray, .int .i64 d] w fun ev w' => ev = .returned (.int .i64 (e.parts d)) ∧ Ext w w' := by
  intro e
  induction e using Ex.ind with
  | h k r c v l ih =>
    intro s d w hin hd0 hd1
    obtain ⟨hk, hr, hc, hv⟩ := hin.fields
    have hks := hin.kids
    obtain ⟨hlm, A, cap, rfl, hkr⟩ := hin.kids
    show PartsCall k r c v l A cap d w ((Ex.mk k r c v l).parts d)
    simp only [Ex.parts]
    by_cases hno : d > 24 ∨ kidsOf k ≠ (l.length : Int) ∨ (k ≠ 1 ∧ (r ≠ 0 ∨ c ≠ 0)) ∨ inRel r = false ∨ inRel c = false
    · have hif : d > 24 ∨ kidsOf k ≠ (l.length : Int) ∨ fieldsOk k r c v = false := by
        rcases hno with h | h | h
        · exact .inl h
        · exact .inr (.inl h)
        · right; right; unfold fieldsOk; rw [if_pos h]
      rw [if_pos hif]
      exact parts_bad1 k r c d v l A cap w hno
    · have hd24 : d ≤ 24 := by omega
      have h1 : kidsOf k = (l.length : Int) := Decidable.byContradiction fun h => hno (.inr (.inl h))
      have h2 : ¬ ((k ≠ 1 ∧ (r ≠ 0 ∨ c ≠ 0)) ∨ inRel r = false ∨ inRel c = false) := fun h => hno (.inr (.inr h))
      have hrr : inRel r = true := by cases h : inRel r; exact absurd (.inr (.inl h)) h2; rfl
      have hcc : inRel c = true := by cases h : inRel c; exact absurd (.inr (.inr h)) h2; rfl
      have hf : fieldsOk k r c v = (v.right && (k == 2 || v.kind == 0)) := by unfold fieldsOk; rw [if_neg h2]
      rw [hf]
      have hm := parts_mid k r c d v l A cap w hv hlm hks ⟨hd0, hd24⟩ h1 (by unfold inRel at hrr; simpa using hrr) (by unfold inRel at hcc; simpa using hcc) (by omega) ih
      by_cases hb : (v.right && (k == 2 || v.kind == 0)) = false
      · rw [if_pos hb] at hm
        rw [if_pos (.inr (.inr hb))]; exact hm
      · rw [if_neg hb] at hm
        rw [if_neg (by rintro (h | h | h); omega; exact h h1; exact hb h)]; exact hm
set_option maxRecDepth 100000 in
set_option maxHeartbeats 1000000 in
theorem rformed_of (e : Ex) (s : Value) (w : World) (h : Ex.In w e s) :
    Calls Try.prog 87 #[.agg (e.cells s).toArray] w fun ev w' => ev = .returned (.bool (decide (0 ≤ e.count 1 400))) ∧ Ext w w' := by
  obtain ⟨-, A', cap', rfl, -⟩ := h.mk_inv.2.2.2.2
  rw [← Ex.formed_parts]
  have HC := Lib.hid (fun u (hu : Ext w u) => rparts_of e (.slice A' e.kids.length cap') 1 u (Ex.In.ext hu _ _ h) (by omega) (by omega))
  clear h
  unfold Ex.cells exCells at *
  generalize e.parts 1 = m at *
  go_enter Try.func87, Try.ntmps87
  go_wp2_with (first
    | (refine wpList_wish rfl fun K hK => wp_loadA (vs := [.int .i64 e.kind, .int .i64 e.rel, .int .i64 e.col, .int .i64 e.const.kind, .int .i64 e.const.int, .float .f64 e.const.flt, .string e.const.text, .slice A' e.kids.length cap']) agg_ex (.tmp 1) rfl rfl (At.new rfl _ _ _ rfl) (hK _ _ ?_))
    | (go_at_call 129; refine (HC.out _ ((Ext.refl _).alloc _)).mono ?_; rintro ev w2 ⟨rfl, hb⟩))
  go_ret
  exact ⟨rfl, ((Ext.refl _).alloc _).trans hb⟩
end Go.Proofs.Ytlcdjaclahhdnaa
