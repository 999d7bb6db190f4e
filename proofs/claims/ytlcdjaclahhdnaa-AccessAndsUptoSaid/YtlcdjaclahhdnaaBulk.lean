/- The calls of tabularyref22.Bulk and tabularyref05.Bulk: what a small number tells. The calls of tabularyref05.Bulk, tabularylaw22.Great. -/
import Derived.Test.YtlcdjaclahhdnaaEx3
import Derived.Test.YtlcdjaclahhdnaaVals
import Derived.Test.YtlcdjaclahhdnaaEv
namespace Go.Proofs.Ytlcdjaclahhdnaa
open Go.RowKit
set_option linter.unusedSimpArgs false
set_option linter.unusedVariables false

mutual
/-- All lists of parts have so many at most. -/
def Ex.small (m : Nat) : Ex → Prop
  | .mk _ _ _ _ l => l.length ≤ m ∧ Exs.small m l
termination_by structural e => e
def Exs.small (m : Nat) : List Ex → Prop
  | [] => True
  | e :: l => e.small m ∧ Exs.small m l
termination_by structural l => l
end
theorem Exs.small_iff (m : Nat) (l : List Ex) : Exs.small m l ↔ ∀ e ∈ l, e.small m := by
  induction l with
  | nil => simp [Exs.small]
  | cons e l ih => simp [Exs.small, ih]
theorem Ex.small_iff (m : Nat) (e : Ex) : e.small m ↔ e.kids.length ≤ m ∧ ∀ x ∈ e.kids, x.small m := by
  cases e with
  | mk k r c v l => simp only [Ex.small, Ex.kids, Exs.small_iff]
theorem Ex.small_mono {m n : Nat} (h : m ≤ n) : ∀ e : Ex, e.small m → e.small n := by
  intro e
  induction e using Ex.ind with
  | h k r c v l ih =>
    simp only [Ex.small, Exs.small_iff]
    exact fun ⟨h1, h2⟩ => ⟨by omega, fun e he => ih e he (h2 e he)⟩
/-- What Bulk's number tells. -/
def BulkR (most : Nat) (l : List Ex) (ev : Ending) : Prop :=
  ∃ n : Nat, ev = .returned (.int .i64 (n : Int)) ∧ n ≤ 2 * most + 1 ∧ (n ≤ most → l.length ≤ most ∧ ∀ e ∈ l, e.small most)
theorem BulkR.get {most : Nat} {l : List Ex} {ev : Ending} (h : BulkR most l ev) : ∃ n : Nat, ev = .returned (.int .i64 (n : Int)) ∧ n ≤ 2 * most + 1 ∧ Hid (n ≤ most → l.length ≤ most ∧ ∀ e ∈ l, e.small most) := by
  obtain ⟨n, h1, h2, h3⟩ := h; exact ⟨n, h1, h2, Lib.hid h3⟩

set_option maxRecDepth 100000 in
set_option maxHeartbeats 4000000 in
theorem bulk_of_kids : ∀ (e : Ex) (s : Value) (most : Nat) (w : World), ExsIn w s e.kids → most ≤ 2000 →
    Calls Try.prog 54 #[s, .int .i64 (most : Int)] w fun ev w' => BulkR most e.kids ev ∧ w = w' := by
  intro e
  induction e using Ex.ind with
  | h k r c v l ih =>
    intro s most w hin hm
    show Calls Try.prog 54 #[s, .int .i64 (most : Int)] w fun ev w' => BulkR most l ev ∧ w = w'
    change ExsIn w s l at hin
    obtain ⟨hlm, A, cap, rfl, hkr⟩ := (⟨hin.1, hin.2⟩ : l.length ≤ 9223372036854775807 ∧ _)
    have HIN := Lib.hid hin; have IH := Lib.hid ih
    clear hin ih hkr
    by_cases hbig : most < l.length
    · have hb1 : (most : Int) < (l.length : Int) := by omega
      go_enter Try.func54, Try.ntmps54
      go_wp2_with fail
      go_ret
      exact ⟨⟨most + 1, rfl, by omega, fun h => by omega⟩, rfl⟩
    · have hb1 : ¬ (most : Int) < (l.length : Int) := by omega
      go_enter Try.func54, Try.ntmps54
      go_wp2_with fail
      go_loop [5, 6] (fun x y => ∃ (i n : Nat), x = .int .i64 (n : Int) ∧ y = .int .i64 (i : Int) ∧ i ≤ l.length ∧ n ≤ 2 * most + 1 ∧ (n ≤ most → ∀ e ∈ l.take i, e.small most)) (fun _ y => l.length - (intOf y).toNat)
      case atStart => exact ⟨0, l.length, rfl, rfl, by omega, by omega, fun _ e he => by simp at he⟩
      case round =>
        obtain ⟨i, n, rfl, rfl, hi, hn, hsm⟩ := hrel
        have HSM := Lib.hid hsm; clear hsm
        by_cases hlt : i < l.length
        · have hlt' : (i : Int) < (l.length : Int) := by omega
          obtain ⟨g, o, s', rfl, _, hat, hin2, hg⟩ := HIN.out.get i hlt
          obtain ⟨_, A', cap', rfl, _⟩ := (Ex.In.mk_inv hin2).2.2.2.2
          have hcall := Lib.hid (fun (z : Int) (h0 : 0 ≤ z) (h1 : z ≤ 2000) => (by have h := IH.out l[i] (List.getElem_mem hlt) (.slice A' l[i].kids.length cap') z.toNat w (Ex.In.mk_inv hin2).2.2.2.2 (by omega); rw [Int.toNat_of_nonneg h0] at h; exact h : Calls Try.prog 54 #[.slice A' l[i].kids.length cap', .int .i64 z] w fun ev w' => BulkR z.toNat l[i].kids ev ∧ w = w'))
          have HT : Hid (∀ q : Nat, (q ≤ most → l[i].small most) → (q ≤ most → n ≤ most) → (q ≤ most → ∀ e ∈ l.take (i + 1), e.small most)) := Lib.hid fun q h1 h2 h3 e he => by
            rw [List.take_succ_eq_append_getElem hlt, List.mem_append] at he
            rcases he with he | he
            · exact HSM.out (h2 h3) e he
            · simp only [List.mem_singleton] at he; subst he; exact h1 h3
          have HSI := Lib.hid (Ex.small_iff most l[i])
          have HAT6 := Lib.hid (hat.get 6 _ rfl)
          have HAT7 := Lib.hid (hat.get 7 _ rfl)
          have htx := (Ex.In.mk_inv hin2).2.2.2.1.text
          clear hat hin2
          generalize l[i] = e at *
          by_cases hnm : n ≤ most
          · have hnm' : (n : Int) ≤ (most : Int) := by omega
            have hI : (i : Int) ≤ 9223372036854775806 := by omega
            have hN : (n : Int) ≤ 2000 := by omega
            by_cases htl : e.const.text.size ≤ most
            · have htl' : ¬ (most : Int) < (e.const.text.size : Int) := by omega
              have hT : (e.const.text.size : Int) ≤ 2000 := by omega
              by_cases hn2 : n + e.const.text.size ≤ most
              · have hn2' : (n : Int) + (e.const.text.size : Int) ≤ (most : Int) := by omega
                go_wp2_with (first
                | (refine wpList_wish rfl fun K hK => wp_idxS (i := i) Try.underlying25 size_ex (.tmp 26) _ rfl rfl rfl hlt (hK _ _ ?_))
                | (refine wpList_wish rfl fun K hK => wp_idxS (i := i) Try.underlying25 size_ex (.tmp 38) _ rfl rfl rfl hlt (hK _ _ ?_))
                | (refine wpList_wish rfl fun K hK => wp_idxS (i := i) Try.underlying25 size_ex (.tmp 50) _ rfl rfl rfl hlt (hK _ _ ?_))
                | (refine wpList_wish rfl fun K hK => wp_cell Try.underlying9 rfl (.tmp 30) rfl rfl HAT6.out (hK _ _ ?_))
                | (refine wpList_wish rfl fun K hK => wp_cell Try.underlying9 rfl (.tmp 42) rfl rfl HAT6.out (hK _ _ ?_))
                | (refine wpList_wish rfl fun K hK => wp_cell Try.underlying25 rfl (.tmp 53) rfl rfl HAT7.out (hK _ _ ?_))
                | (go_at_call 54; refine (hcall.out _ (by omega) (by omega)).mono ?_; rintro ev w2 ⟨hh, rfl⟩; obtain ⟨q, rfl, hq1, hq2⟩ := hh.get; have hQ : (q : Int) ≤ 4001 := by omega))
                refine ⟨⟨i + 1, n + e.const.text.size + q, by simp; try omega, by simp, by omega, by omega, HT.out _ (fun h => HSI.out.2 ⟨?_, ?_⟩) (fun _ => hnm)⟩, by simp [intOf] <;> omega⟩
                · have := (hq2.out (by omega)).1; omega
                · intro x hx; exact Ex.small_mono (by omega) x ((hq2.out (by omega)).2 x hx)
              · have hn2' : ¬ (n : Int) + (e.const.text.size : Int) ≤ (most : Int) := by omega
                go_wp2_with (first
                | (refine wpList_wish rfl fun K hK => wp_idxS (i := i) Try.underlying25 size_ex (.tmp 26) _ rfl rfl rfl hlt (hK _ _ ?_))
                | (refine wpList_wish rfl fun K hK => wp_idxS (i := i) Try.underlying25 size_ex (.tmp 38) _ rfl rfl rfl hlt (hK _ _ ?_))
                | (refine wpList_wish rfl fun K hK => wp_idxS (i := i) Try.underlying25 size_ex (.tmp 50) _ rfl rfl rfl hlt (hK _ _ ?_))
                | (refine wpList_wish rfl fun K hK => wp_cell Try.underlying9 rfl (.tmp 30) rfl rfl HAT6.out (hK _ _ ?_))
                | (refine wpList_wish rfl fun K hK => wp_cell Try.underlying9 rfl (.tmp 42) rfl rfl HAT6.out (hK _ _ ?_))
                | (refine wpList_wish rfl fun K hK => wp_cell Try.underlying25 rfl (.tmp 53) rfl rfl HAT7.out (hK _ _ ?_)))
                refine ⟨⟨i + 1, n + e.const.text.size, by simp, by simp, by omega, by omega, fun h => absurd h hn2⟩, by simp [intOf] <;> omega⟩
            · have htl' : (most : Int) < (e.const.text.size : Int) := by omega
              go_wp2_with (first
                | (refine wpList_wish rfl fun K hK => wp_idxS (i := i) Try.underlying25 size_ex (.tmp 26) _ rfl rfl rfl hlt (hK _ _ ?_))
                | (refine wpList_wish rfl fun K hK => wp_idxS (i := i) Try.underlying25 size_ex (.tmp 38) _ rfl rfl rfl hlt (hK _ _ ?_))
                | (refine wpList_wish rfl fun K hK => wp_idxS (i := i) Try.underlying25 size_ex (.tmp 50) _ rfl rfl rfl hlt (hK _ _ ?_))
                | (refine wpList_wish rfl fun K hK => wp_cell Try.underlying9 rfl (.tmp 30) rfl rfl HAT6.out (hK _ _ ?_))
                | (refine wpList_wish rfl fun K hK => wp_cell Try.underlying9 rfl (.tmp 42) rfl rfl HAT6.out (hK _ _ ?_))
                | (refine wpList_wish rfl fun K hK => wp_cell Try.underlying25 rfl (.tmp 53) rfl rfl HAT7.out (hK _ _ ?_)))
              go_ret
              exact ⟨⟨most + 1, rfl, by omega, fun h => by omega⟩, rfl⟩
          · have hnm' : ¬ ((n : Int) ≤ (most : Int)) := by omega
            go_wp2_with fail
            go_ret
            exact ⟨⟨n, rfl, by omega, fun h => absurd h hnm⟩, rfl⟩
        · have hlt' : ¬ ((i : Int) < (l.length : Int)) := by omega
          obtain rfl : i = l.length := by omega
          go_wp2_with fail
          go_ret
          exact ⟨⟨n, rfl, by omega, fun h => ⟨by omega, by have := HSM.out h; rwa [List.take_length] at this⟩⟩, rfl⟩

theorem bulk22_of (l : List Ex) (s : Value) (most : Nat) (w : World) (h : ExsIn w s l) (hm : most ≤ 2000) :
    Calls Try.prog 54 #[s, .int .i64 (most : Int)] w fun ev w' => BulkR most l ev ∧ w = w' :=
  bulk_of_kids (.mk 0 0 0 Val.null l) s most w h hm
end Go.Proofs.Ytlcdjaclahhdnaa
namespace Go.Proofs.Ytlcdjaclahhdnaa
open Go.RowKit
set_option linter.unusedSimpArgs false
set_option linter.unusedVariables false

/-- What Bulk's number tells of rows. -/
def BulkV (most : Nat) (rows : List (List Val)) (ev : Ending) : Prop :=
  ∃ n : Nat, ev = .returned (.int .i64 (n : Int)) ∧ n ≤ 2 * most + 1 ∧ (n ≤ most → rows.length ≤ most ∧ ∀ r ∈ rows, r.length ≤ most)
theorem BulkV.get {most : Nat} {l : List (List Val)} {ev : Ending} (h : BulkV most l ev) : ∃ n : Nat, ev = .returned (.int .i64 (n : Int)) ∧ n ≤ 2 * most + 1 ∧ Hid (n ≤ most → l.length ≤ most ∧ ∀ r ∈ l, r.length ≤ most) := by
  obtain ⟨n, h1, h2, h3⟩ := h; exact ⟨n, h1, h2, Lib.hid h3⟩

set_option maxRecDepth 100000 in
set_option maxHeartbeats 4000000 in
theorem bulk05_of (rows : List (List Val)) (s : Value) (most : Nat) (w : World) (hin : RowsIn w s rows) (hm : most ≤ 2000) :
    Calls Try.prog 55 #[s, .int .i64 (most : Int)] w fun ev w' => BulkV most rows ev ∧ w = w' := by
  obtain ⟨A, cap, rfl, _⟩ := hin.val
  have hlm := hin.lens.1
  have HIN := Lib.hid hin
  clear hin
  by_cases hbig : most < rows.length
  · have hb1 : (most : Int) < (rows.length : Int) := by omega
    go_enter Try.func55, Try.ntmps55
    go_wp2_with fail
    go_ret
    exact ⟨⟨most + 1, rfl, by omega, fun h => by omega⟩, rfl⟩
  · have hb1 : ¬ (most : Int) < (rows.length : Int) := by omega
    go_enter Try.func55, Try.ntmps55
    go_wp2_with fail
    go_loop [5, 6] (fun x y => ∃ (i n : Nat), x = .int .i64 (n : Int) ∧ y = .int .i64 (i : Int) ∧ i ≤ rows.length ∧ n ≤ 2 * most + 1 ∧ (∀ r ∈ rows.take i, r.length ≤ most)) (fun _ y => rows.length - (intOf y).toNat)
    case atStart => exact ⟨0, rows.length, rfl, rfl, by omega, by omega, fun e he => by simp at he⟩
    case round =>
      obtain ⟨i, n, rfl, rfl, hi, hn, hsm⟩ := hrel
      have HSM := Lib.hid hsm; clear hsm
      by_cases hlt : i < rows.length
      · have hlt' : (i : Int) < (rows.length : Int) := by omega
        have hI : (i : Int) ≤ 9223372036854775806 := by omega
        obtain ⟨g, o, B, m, cb, rfl, _, hmr, hc, hv⟩ := HIN.out.at_ i hlt
        have hml := HIN.out.lens.2 rows[i] (List.getElem_mem hlt)
        have HT : Hid (m ≤ most → ∀ r ∈ rows.take (i + 1), r.length ≤ most) := Lib.hid fun h1 r he => by
          rw [List.take_succ_eq_append_getElem hlt, List.mem_append] at he
          rcases he with he | he
          · exact HSM.out r he
          · simp only [List.mem_singleton] at he; subst he; omega
        have HC : Hid (w.cell? ⟨g, o + i * 1, none⟩ = some (.slice B m cb)) := Lib.hid (by rw [Nat.mul_one]; exact hc)
        have HV := Lib.hid hv
        rw [← hmr] at hml
        have HMR := Lib.hid hmr
        clear hc hv hmr
        generalize rows[i] = row at *
        by_cases hmb : most < m
        · have hmb' : (most : Int) < (m : Int) := by omega
          go_wp2_with (first
            | (refine wpList_wish rfl fun K hK => wp_idxS (i := i) Try.underlying50 size_slice59 (.tmp 22) _ rfl rfl rfl hlt (hK _ _ ?_))
            | (refine wpList_wish rfl fun K hK => wp_cell Try.underlying59 rfl (.tmp 24) rfl rfl HC.out (hK _ _ ?_)))
          go_ret
          exact ⟨⟨most + 1, rfl, by omega, fun h => by omega⟩, rfl⟩
        · have hmb' : ¬ (most : Int) < (m : Int) := by omega
          go_wp2_with (first
            | (refine wpList_wish rfl fun K hK => wp_idxS (i := i) Try.underlying50 size_slice59 (.tmp 22) _ rfl rfl rfl hlt (hK _ _ ?_))
            | (refine wpList_wish rfl fun K hK => wp_cell Try.underlying59 rfl (.tmp 24) rfl rfl HC.out (hK _ _ ?_)))
          go_loop [5, 7] (fun x y => ∃ (k n : Nat), x = .int .i64 (n : Int) ∧ y = .int .i64 (k : Int) ∧ k ≤ m ∧ n ≤ 2 * most + 1) (fun _ y => m - (intOf y).toNat)
          case atStart => exact ⟨0, n, rfl, rfl, by omega, by omega⟩
          case round =>
            obtain ⟨k, n2, rfl, rfl, hk, hn2⟩ := hrel
            by_cases hkl : k < m
            · have hkl' : (k : Int) < (m : Int) := by omega
              have hK9 : (k : Int) ≤ 9223372036854775806 := by omega
              by_cases hnm : most < n2
              · have hnm' : (most : Int) < (n2 : Int) := by omega
                go_wp2_with (first
                  | (refine wpList_wish rfl fun K hK => wp_idxS (i := i) Try.underlying50 size_slice59 (.tmp 32) _ rfl rfl rfl hlt (hK _ _ ?_))
                  | (refine wpList_wish rfl fun K hK => wp_cell Try.underlying59 rfl (.tmp 34) rfl rfl HC.out (hK _ _ ?_)))
                go_ret
                exact ⟨⟨most + 1, rfl, by omega, fun h => by omega⟩, rfl⟩
              · have hnm' : ¬ (most : Int) < (n2 : Int) := by omega
                obtain ⟨g2, o2, rfl, _, hat, hok, hg2⟩ := HV.out.at_ k (by rw [← HMR.out]; exact hkl)
                have HT3 := Lib.hid (hat.get 3 _ rfl)
                clear hat hok
                generalize row[k].text = t at *
                by_cases htl : most < t.size
                · have htl' : (most : Int) < (t.size : Int) := by omega
                  go_wp2_with (first
                    | (refine wpList_wish rfl fun K hK => wp_idxS (i := i) Try.underlying50 size_slice59 (.tmp 32) _ rfl rfl rfl hlt (hK _ _ ?_))
                    | (refine wpList_wish rfl fun K hK => wp_cell Try.underlying59 rfl (.tmp 34) rfl rfl HC.out (hK _ _ ?_))
                    | (refine wpList_wish rfl fun K hK => wp_idxS (i := i) Try.underlying50 size_slice59 (.tmp 44) _ rfl rfl rfl hlt (hK _ _ ?_))
                    | (refine wpList_wish rfl fun K hK => wp_cell Try.underlying59 rfl (.tmp 46) rfl rfl HC.out (hK _ _ ?_))
                    | (refine wpList_wish rfl fun K hK => wp_idxS (i := k) Try.underlying59 sizeVal (.tmp 47) _ rfl rfl rfl hkl (hK _ _ ?_))
                    | (refine wpList_wish rfl fun K hK => wp_cell Try.underlying9 rfl (.tmp 50) rfl rfl HT3.out (hK _ _ ?_)))
                  go_ret
                  exact ⟨⟨most + 1, rfl, by omega, fun h => by omega⟩, rfl⟩
                · have htl' : ¬ (most : Int) < (t.size : Int) := by omega
                  have hT : (t.size : Int) ≤ 2000 := by omega
                  have hN : (n2 : Int) ≤ 2000 := by omega
                  go_wp2_with (first
                    | (refine wpList_wish rfl fun K hK => wp_idxS (i := i) Try.underlying50 size_slice59 (.tmp 32) _ rfl rfl rfl hlt (hK _ _ ?_))
                    | (refine wpList_wish rfl fun K hK => wp_cell Try.underlying59 rfl (.tmp 34) rfl rfl HC.out (hK _ _ ?_))
                    | (refine wpList_wish rfl fun K hK => wp_idxS (i := i) Try.underlying50 size_slice59 (.tmp 44) _ rfl rfl rfl hlt (hK _ _ ?_))
                    | (refine wpList_wish rfl fun K hK => wp_cell Try.underlying59 rfl (.tmp 46) rfl rfl HC.out (hK _ _ ?_))
                    | (refine wpList_wish rfl fun K hK => wp_idxS (i := k) Try.underlying59 sizeVal (.tmp 47) _ rfl rfl rfl hkl (hK _ _ ?_))
                    | (refine wpList_wish rfl fun K hK => wp_cell Try.underlying9 rfl (.tmp 50) rfl rfl HT3.out (hK _ _ ?_))
                    | (refine wpList_wish rfl fun K hK => wp_idxS (i := i) Try.underlying50 size_slice59 (.tmp 60) _ rfl rfl rfl hlt (hK _ _ ?_))
                    | (refine wpList_wish rfl fun K hK => wp_cell Try.underlying59 rfl (.tmp 62) rfl rfl HC.out (hK _ _ ?_))
                    | (refine wpList_wish rfl fun K hK => wp_idxS (i := k) Try.underlying59 sizeVal (.tmp 63) _ rfl rfl rfl hkl (hK _ _ ?_))
                    | (refine wpList_wish rfl fun K hK => wp_cell Try.underlying9 rfl (.tmp 66) rfl rfl HT3.out (hK _ _ ?_)))
                  exact ⟨⟨_, .int .i64 ((n2 + 1 + t.size : Nat) : Int), .int .i64 ((k + 1 : Nat) : Int), ⟨k + 1, n2 + 1 + t.size, rfl, rfl, by omega, by omega⟩, rfl, by simp, by simp⟩, by simp [intOf] <;> omega⟩
            · have hkl' : ¬ ((k : Int) < (m : Int)) := by omega
              go_wp2_with (first
                | (refine wpList_wish rfl fun K hK => wp_idxS (i := i) Try.underlying50 size_slice59 (.tmp 32) _ rfl rfl rfl hlt (hK _ _ ?_))
                | (refine wpList_wish rfl fun K hK => wp_cell Try.underlying59 rfl (.tmp 34) rfl rfl HC.out (hK _ _ ?_)))
              refine ⟨⟨i + 1, n2, by simp, by simp, by omega, by omega, HT.out (by omega)⟩, by simp [intOf] <;> omega⟩
      · have hlt' : ¬ ((i : Int) < (rows.length : Int)) := by omega
        obtain rfl : i = rows.length := by omega
        go_wp2_with fail
        go_ret
        exact ⟨⟨n, rfl, by omega, fun h => ⟨by omega, by have := HSM.out; rwa [List.take_length] at this⟩⟩, rfl⟩

/-- Whether expressions, or rows, are too great: what 'no' tells. -/
def GreatR (l : List Ex) (rows : List (List Val)) (ev : Ending) : Prop :=
  ∃ b : Bool, ev = .returned (.bool b) ∧ (b = false → (l.length ≤ 500 ∧ ∀ e ∈ l, e.small 500) ∧ rows.length ≤ 500 ∧ ∀ r ∈ rows, r.length ≤ 500)
theorem GreatR.get {l : List Ex} {rows : List (List Val)} {ev : Ending} (h : GreatR l rows ev) : ∃ b : Bool, ev = .returned (.bool b) ∧ Hid (b = false → (l.length ≤ 500 ∧ ∀ e ∈ l, e.small 500) ∧ rows.length ≤ 500 ∧ ∀ r ∈ rows, r.length ≤ 500) := by
  obtain ⟨b, h1, h2⟩ := h; exact ⟨b, h1, Lib.hid h2⟩
set_option maxHeartbeats 1000000 in
theorem great_of (l : List Ex) (s : Value) (rows : List (List Val)) (rv : Value) (w : World) (h : ExsIn w s l) (hr : RowsIn w rv rows) :
    Calls Try.prog 14 #[s, rv] w fun ev w' => GreatR l rows ev ∧ w = w' := by
  have H := Lib.hid h; have HR := Lib.hid hr
  obtain ⟨_, A, cap, rfl, _⟩ := (⟨h.1, h.2⟩ : l.length ≤ 9223372036854775807 ∧ _)
  obtain ⟨RA, rc, rfl, _⟩ := hr.val
  clear h hr
  have HB := Lib.hid (fun w h => bulk22_of l (.slice A l.length cap) 500 w h (by omega))
  have HB5 := Lib.hid (fun w h => bulk05_of rows (.slice RA rows.length rc) 500 w h (by omega))
  go_enter Try.func14, Try.ntmps14
  go_wp2_with (go_at_call 54; refine (HB.out _ H.out).mono ?_; rintro ev w2 ⟨hh, rfl⟩; obtain ⟨n, rfl, hn1, hn2⟩ := hh.get; by_cases hn3 : n ≤ 500)
  · have hn4 : ¬ (500 : Int) < (n : Int) := by omega
    go_wp2_with (go_at_call 55; refine (HB5.out _ HR.out).mono ?_; rintro ev w2 ⟨hh, rfl⟩; obtain ⟨m, rfl, hm1, hm2⟩ := hh.get; by_cases hm3 : m ≤ 500)
    · have hm4 : ¬ (500 : Int) < (m : Int) := by omega
      go_wp2_with fail
      go_ret
      exact ⟨⟨_, rfl, fun _ => ⟨hn2.out hn3, hm2.out hm3⟩⟩, rfl⟩
    · have hm4 : (500 : Int) < (m : Int) := by omega
      go_wp2_with fail
      go_ret
      exact ⟨⟨_, rfl, fun h => by simp at h; omega⟩, rfl⟩
  · have hn4 : (500 : Int) < (n : Int) := by omega
    go_wp2_with fail
    go_ret
    exact ⟨⟨_, rfl, fun h => by simp at h⟩, rfl⟩
end Go.Proofs.Ytlcdjaclahhdnaa
