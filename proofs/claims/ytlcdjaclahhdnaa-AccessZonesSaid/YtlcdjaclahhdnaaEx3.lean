/- The calls of expr.count, expr.Formed. -/
import Derived.Test.YtlcdjaclahhdnaaEx2
namespace Go.Proofs.Ytlcdjaclahhdnaa
open Go.RowKit
set_option linter.unusedSimpArgs false
set_option linter.unusedVariables false

theorem size_box (w : World) (o : Obj) : w.heap.size < (w.alloc o).heap.size := by simp
theorem Exs.count_drop {l : List Ex} {i : Nat} (hi : i < l.length) (d lf : Int) :
    Exs.count (l.drop i) d lf = if l[i].count d lf < 0 then -1 else Exs.count (l.drop (i + 1)) d (l[i].count d lf) := by
  rw [List.drop_eq_getElem_cons hi]; simp only [Exs.count]

set_option maxRecDepth 100000 in
set_option maxHeartbeats 4000000 in
theorem count_of : ∀ (e : Ex) (s : Value) (d left : Int) (w : World), Ex.In w e s → 0 ≤ d → d ≤ 1000 → -1 ≤ left → left ≤ 1000 →
    Calls Try.prog 56 #[.agg (e.cells s).toArray, .int .i64 d, .int .i64 left] w fun ev w' => ev = .returned (.int .i64 (e.count d left)) ∧ Ext w w' := by
  intro e
  induction e using Ex.ind with
  | h k r c v l ih =>
    intro s d left w hin hd0 hd1 hl0 hl1
    obtain ⟨hk, hr, hc, hv⟩ := hin.fields
    have hks := hin.kids
    obtain ⟨hlm, A, cap, rfl, hkr⟩ := hks
    show Calls Try.prog 56 #[.agg (exCells k r c v (.slice A l.length cap)).toArray, .int .i64 d, .int .i64 left] w fun ev w' => ev = .returned (.int .i64 ((Ex.mk k r c v l).count d left)) ∧ Ext w w'
    simp only [Ex.count]
    by_cases hno : d > 24 ∨ left < 1 ∨ kidsOf k ≠ (l.length : Int) ∨ fieldsOk k r c v = false
    · rw [if_pos hno]
      exact count_no k r c d left v l A cap w hv hlm hno
    · rw [if_neg hno]
      have h1 : ¬ 24 < d := by omega
      have h2 : ¬ left < 1 := by omega
      have h3 : kidsOf k = (l.length : Int) := by
        by_cases h : kidsOf k = (l.length : Int)
        · exact h
        · exact absurd (.inr (.inr (.inl h))) hno
      have h4 : fieldsOk k r c v = true := by
        cases h : fieldsOk k r c v
        · exact absurd (.inr (.inr (.inr h))) hno
        · rfl
      have hq1 : decide (24 < d) = false := decide_eq_false h1
      have hq2 : decide (left < 1) = false := decide_eq_false h2
      have hq3 : (kidsOf k != (l.length : Int)) = false := by simpa using h3
      have h0 := Lib.hid (At.new (w := w) rfl (exCells k r c v (.slice A l.length cap)) 27 _ rfl)
      have hfo := Lib.hid (fun w => fields_of k r c v (.slice A l.length cap) w hv)
      rw [h4] at hfo
      have HIN := Lib.hid hin.kids; have IH := Lib.hid ih
      clear hin ih hkr hno h3 h4 hk hr hc hv
      have hwl : wrap64 (left - 1) = left - 1 := by unfold wrap64; omega
      have hwd : wrap64 (d + 1) = d + 1 := by unfold wrap64; omega
      go_enter Try.func56, Try.ntmps56
      go_wp2_with fail
      refine wp_region_ext (by kernel_rfl) (by kernel_rfl) ?_; (repeat (first | (simp only [hq1]) | (simp only [hq2]) | (simp only [hq3]) | (refine quiet_cell rfl (.tmp 16) Try.underlying3 rfl rfl rfl (fun w' hw => (h0.out.ext hw (by simp)).get 0 _ rfl) ?_) | (refine quiet_cell rfl (.tmp 19) Try.underlying25 rfl rfl rfl (fun w' hw => (h0.out.ext hw (by simp)).get 7 _ rfl) ?_) | (refine quiet_loadA (vs := exCells k r c v (.slice A l.length cap)) rfl (.tmp 3) agg_ex rfl rfl (fun w' hw => h0.out.ext hw (by simp)) ?_) | (refine wpQuiet_step (fun K hK => ?_); go_simp; first | (refine hK _ ?_; clear hK K) | (refine ⟨_, fun w hw => rfl, hK _ ?_⟩; clear hK K) | (apply Exists.intro; refine ⟨fun w hw => ?_, hK _ ?_⟩; (focus first | (go_at_call 109; exact (kids_of _ _).mono fun _ _ ⟨h1, h2⟩ => ⟨h1, h2 ▸ hw⟩) | (go_at_call 110; exact (hfo.out _).mono fun _ _ ⟨h1, h2⟩ => ⟨h1, hw.trans h2⟩)); clear hK K)))); refine wpQuiet_nil ?_
      intro w1 hE0
      have hE1 : Ext w w1 := ((Ext.refl w).alloc _).trans hE0
      have hc7 : w1.cell? ⟨w.heap.size, 7, none⟩ = some (.slice A l.length cap) := (h0.out.ext hE0 (size_box _ _)).get 7 _ rfl
      clear h0 hfo
      go_wp2_with fail
      go_loopw [2, 34] (fun x y wr => ∃ (i : Nat) (lf : Int), y = .int .i64 (i : Int) ∧ x = .int .i64 lf ∧ i ≤ l.length ∧ 0 ≤ lf ∧ lf ≤ 1000 ∧ Exs.count l (d + 1) (left - 1) = Exs.count (l.drop i) (d + 1) lf ∧ Ext w wr) (fun _ y _ => l.length - (intOf y).toNat)
      case atStart => exact ⟨0, left - 1, rfl, rfl, by omega, by omega, by omega, rfl, hE1⟩
      case round =>
        rename_i hrel
        obtain ⟨i, lf, rfl, rfl, hi, hlf0, hlf1, hcnt, hE⟩ := hrel
        have HCNT := Lib.hid hcnt; clear hcnt
        by_cases hlt : i < l.length
        · have hlt' : (i : Int) < (l.length : Int) := by omega
          have hw : wrap64 ((i : Int) + 1) = (i : Int) + 1 := by unfold wrap64; omega
          obtain ⟨g, o, s', rfl, _, hat, hin2, hg⟩ := (HIN.out.ext hE).get i hlt
          have HD := Lib.hid (Exs.count_drop hlt (d + 1) lf)
          have hrg := Ex.count_range l[i] (d + 1) lf
          obtain ⟨_, A', cap', rfl, _⟩ := (Ex.In.mk_inv hin2).2.2.2.2
          have hcall := Lib.hid (fun w (h : Ex.In w l[i] (.slice A' l[i].kids.length cap')) => IH.out l[i] (List.getElem_mem hlt) (.slice A' l[i].kids.length cap') (d + 1) lf w h (by omega) (by omega) (by omega) (by omega))
          have HAT := Lib.hid hat; have HIN2 := Lib.hid hin2
          clear hat hin2 IH
          unfold Ex.cells exCells at HAT hcall
          generalize l[i] = e at *
          obtain ⟨m, hm⟩ : ∃ m, m = e.count (d + 1) lf := ⟨_, rfl⟩
          rw [← hm] at HD hrg hcall
          clear hm
          by_cases hneg : m < 0
          · go_wp2_with (first
              | (refine wpList_wish rfl fun K hK => wp_idxS (i := i) Try.underlying25 size_ex (.tmp 32) _ rfl rfl rfl hlt (hK _ _ ?_))
              | (refine wpList_wish rfl fun K hK => wp_loadA (vs := [.int .i64 e.kind, .int .i64 e.rel, .int .i64 e.col, .int .i64 e.const.kind, .int .i64 e.const.int, .float .f64 e.const.flt, .string e.const.text, .slice A' e.kids.length cap']) agg_ex (.tmp 36) rfl rfl HAT.out (hK _ _ ?_))
              | (refine wpList_wish rfl fun K hK => wp_loadA (vs := [.int .i64 e.kind, .int .i64 e.rel, .int .i64 e.col, .int .i64 e.const.kind, .int .i64 e.const.int, .float .f64 e.const.flt, .string e.const.text, .slice A' e.kids.length cap']) agg_ex (.tmp 8) rfl rfl (At.new rfl _ _ _ rfl) (hK _ _ ?_))
              | (go_at_call 56; refine (hcall.out _ (Ex.In.ext ((Ext.refl _).alloc _) _ _ HIN2.out)).mono ?_; rintro ev w2 ⟨rfl, hb⟩))
            go_ret
            refine ⟨?_, hE.trans (((Ext.refl _).alloc _).trans hb)⟩
            rw [HCNT.out, HD.out, if_pos hneg]; rfl
          · go_wp2_with (first
              | (refine wpList_wish rfl fun K hK => wp_idxS (i := i) Try.underlying25 size_ex (.tmp 32) _ rfl rfl rfl hlt (hK _ _ ?_))
              | (refine wpList_wish rfl fun K hK => wp_loadA (vs := [.int .i64 e.kind, .int .i64 e.rel, .int .i64 e.col, .int .i64 e.const.kind, .int .i64 e.const.int, .float .f64 e.const.flt, .string e.const.text, .slice A' e.kids.length cap']) agg_ex (.tmp 36) rfl rfl HAT.out (hK _ _ ?_))
              | (refine wpList_wish rfl fun K hK => wp_loadA (vs := [.int .i64 e.kind, .int .i64 e.rel, .int .i64 e.col, .int .i64 e.const.kind, .int .i64 e.const.int, .float .f64 e.const.flt, .string e.const.text, .slice A' e.kids.length cap']) agg_ex (.tmp 8) rfl rfl (At.new rfl _ _ _ rfl) (hK _ _ ?_))
              | (go_at_call 56; refine (hcall.out _ (Ex.In.ext ((Ext.refl _).alloc _) _ _ HIN2.out)).mono ?_; rintro ev w2 ⟨rfl, hb⟩))
            refine ⟨⟨i + 1, m, by simp, rfl, by omega, by omega, by omega, ?_, hE.trans (((Ext.refl _).alloc _).trans hb)⟩, by simp [intOf] <;> omega⟩
            rw [HCNT.out, HD.out, if_neg (by omega)]
        · have hlt' : ¬ ((i : Int) < (l.length : Int)) := by omega
          obtain rfl : i = l.length := by omega
          go_wp2_with fail
          go_ret
          refine ⟨?_, hE⟩
          rw [HCNT.out, List.drop_of_length_le (Nat.le_refl _)]
          simp only [Exs.count]; rfl

set_option maxRecDepth 100000 in
set_option maxHeartbeats 400000 in
theorem formed_of (e : Ex) (s : Value) (w : World) (h : Ex.In w e s) :
    Calls Try.prog 15 #[.agg (e.cells s).toArray] w fun ev w' => ev = .returned (.bool (decide (0 ≤ e.count 1 400))) ∧ Ext w w' := by
  have H := Lib.hid h
  obtain ⟨_, A', cap', rfl, _⟩ := (Ex.In.mk_inv h).2.2.2.2
  have hc := Lib.hid (fun w h => count_of e (.slice A' e.kids.length cap') 1 400 w h (by omega) (by omega) (by omega) (by omega))
  clear h
  unfold Ex.cells exCells at *
  generalize e.count 1 400 = n at *
  go_enter Try.func15, Try.ntmps15
  go_wp2_with (first
    | (refine wpList_wish rfl fun K hK => wp_loadA (vs := [.int .i64 e.kind, .int .i64 e.rel, .int .i64 e.col, .int .i64 e.const.kind, .int .i64 e.const.int, .float .f64 e.const.flt, .string e.const.text, .slice A' e.kids.length cap']) agg_ex (.tmp 1) rfl rfl (At.new rfl _ _ _ rfl) (hK _ _ ?_))
    | (go_at_call 56; refine (hc.out _ (Ex.In.ext ((Ext.refl _).alloc _) _ _ H.out)).mono ?_; rintro ev w2 ⟨rfl, hb⟩))
  go_ret
  refine ⟨?_, ((Ext.refl _).alloc _).trans hb⟩
  rfl
end Go.Proofs.Ytlcdjaclahhdnaa
