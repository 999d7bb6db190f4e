/- The ranges of the document's zones, plain: alike to the program's, but for a NaN's bits. The call of tabularyref26.one: what is known of a column of a stretch. Printed by wip/tools/gen_one.py. The calls of tabularyref26.known, tabularylaw26.told. Printed by wip/tools/gen_told.py. -/
import Derived.Test.YtlcdjaclahhdnaaR4c
import Derived.Test.YtlcdjaclahhdnaaLike
import Derived.Test.YtlcdjaclahhdnaaSafeA
import Derived.Test.YtlcdjaclahhdnaaCol
namespace Go.Proofs.Ytlcdjaclahhdnaa
open Go.RowKit
set_option linter.unusedSimpArgs false
set_option linter.unusedVariables false

theorem plain_nr {v : Val} (h : ¬ v.right = true) : v.plain = Val.null := by unfold Val.plain; rw [if_neg h]
theorem like_cmp {a b a' b' : Val} (h : a.like a') (k : b.like b') : a.cmp b = a'.cmp b' := by
  have e : ∀ {x y : Val}, x.like y → x.plain = y.plain := fun {x y} h => by
    by_cases hr : x.right = true
    · exact like_plain h hr
    · rw [plain_nr hr, plain_nr (fun hy => hr ((like_right h).trans hy))]
  rw [cmp_vcmp, cmp_vcmp, e h, e k]
theorem like_plainR (v : Val) : v.plainR.like v.plain := by
  rw [plainR_plain]
  by_cases h : v.right = true ∧ v.kind = 3
  · rw [if_pos h]
    refine ⟨rfl, rfl, rfl, ?_⟩
    show v.plainR.flt = plainF v.plainR.flt ∨ _
    cases hn : isNaN v.plainR.flt
    · left
      have hz : isZ v.plainR.flt = true → v.plainR.flt = 0 := by
        unfold Val.plainR
        rw [if_pos h.1]
        by_cases h3 : v.kind = 3 ∧ isZ v.flt = true
        · rw [if_pos h3]; intro _; rfl
        · rw [if_neg h3]; intro hz; exact absurd ⟨h.2, hz⟩ h3
      unfold plainF
      rw [hn, if_neg (by simp)]
      by_cases h4 : isZ v.plainR.flt = true
      · rw [if_pos h4]; exact hz h4
      · rw [if_neg h4]
    · right
      exact ⟨rfl, by rw [isNaN_plainF]; exact hn⟩
  · rw [if_neg h]; exact Val.like.refl _
/-- The value in a place of a row, as the document takes it. -/
def atR (row : List Val) (i : Nat) : Val := match row[i]? with | some v => v.plainR | none => Val.null
theorem atR_like (row : List Val) (i : Nat) : (atR row i).like (atV row i) := by
  unfold atR atV
  cases row[i]? with
  | none => exact Val.like.refl _
  | some v => exact like_plainR v
theorem plainR_ok {v : Val} (h : v.Ok) : v.plainR.Ok := by
  unfold Val.plainR
  split
  · split
    · exact ⟨by decide, by decide, by decide, by decide⟩
    · exact h
  · exact Val.null_ok
theorem atR_ok {row : List Val} (h : ∀ v ∈ row, v.Ok) (i : Nat) : (atR row i).Ok := by
  unfold atR
  cases hr : row[i]? with
  | none => exact Val.null_ok
  | some v => exact plainR_ok (h v (List.mem_of_getElem? hr))
theorem atR_kind (row : List Val) (i : Nat) : 0 ≤ (atR row i).kind := by
  rw [(atR_like row i).1, luk_kind]
  exact right_kind (luk_right row i)
/-- A value taken into a range, as the document does. -/
def Rng.step (g : Rng) (v : Val) : Rng :=
  if v.kind = 0 then ⟨g.kind, g.nulls + 1, g.low, g.high⟩
  else if g.kind = 0 then ⟨v.kind, g.nulls, v, v⟩
  else if g.kind ≠ v.kind then ⟨-1, g.nulls, Val.null, Val.null⟩
  else ⟨g.kind, g.nulls, if v.cmp g.low < 0 then v else g.low, if 0 < v.cmp g.high then v else g.high⟩
structure Rng.Like (g h : Rng) : Prop where
  kind : g.kind = h.kind
  nulls : g.nulls = h.nulls
  low : g.low.like h.low
  high : g.high.like h.high
theorem Rng.Like.refl (g : Rng) : g.Like g := ⟨rfl, rfl, Val.like.refl _, Val.like.refl _⟩
theorem step_like {g h : Rng} {v u : Val} {ws : List Val} (hg : g.Like h) (hv : v.like u) (hi : RInv h ws) (hk : 0 ≤ v.kind) : (g.step v).Like (h.widen u) := by
  have h1 := like_cmp hv hg.low
  have h2 := like_cmp hv hg.high
  have hle := hi.le
  unfold Rng.step Rng.widen
  rw [hv.1, hg.kind, hg.nulls, h1, h2]
  by_cases k0 : u.kind = 0
  · rw [if_pos k0, if_pos k0]; exact ⟨rfl, rfl, hg.low, hg.high⟩
  · rw [if_neg k0, if_neg k0]
    by_cases k1 : h.kind = 0
    · rw [if_pos k1, if_pos k1]; exact ⟨rfl, rfl, hv, hv⟩
    · rw [if_neg k1, if_neg k1]
      by_cases k2 : h.kind ≠ u.kind
      · rw [if_pos k2, if_pos k2]; exact Rng.Like.refl _
      · rw [if_neg k2, if_neg k2]
        have k3 : h.kind = u.kind := Decidable.not_not.1 k2
        have k4 := hv.1
        have hle' := hle (by omega)
        by_cases k5 : u.cmp h.low < 0
        · rw [if_pos k5, if_pos k5]
          have k6 : ¬ 0 < u.cmp h.high := fun k6 => by
            have t := cmp_ord.le u h.low h.high (by omega) hle'
            omega
          rw [if_neg k6]
          exact ⟨rfl, rfl, hv, hg.high⟩
        · rw [if_neg k5, if_neg k5]
          by_cases k6 : 0 < u.cmp h.high
          · rw [if_pos k6, if_pos k6]; exact ⟨rfl, rfl, hg.low, hv⟩
          · rw [if_neg k6, if_neg k6]; exact ⟨hg.kind ▸ rfl, rfl, hg.low, hg.high⟩
def rgRU (rows : List (List Val)) (j i : Nat) : Rng := (rows.take j).foldl (fun g r => g.step (atR r i)) Rng.zero
def rgR (rows : List (List Val)) (i : Nat) : Rng := rows.foldl (fun g r => g.step (atR r i)) Rng.zero
def colsRR (rows : List (List Val)) (n : Nat) : List Rng := (List.range n).map (rgR rows)
theorem rgRU_succ (rows : List (List Val)) {j i : Nat} (h : j < rows.length) : rgRU rows (j + 1) i = (rgRU rows j i).step (atR rows[j] i) := by
  unfold rgRU
  rw [List.take_succ_eq_append_getElem h, List.foldl_append]
  rfl
theorem step_ok {g : Rng} {v : Val} (hg : g.Ok) (hv : v.Ok) : (g.step v).Ok := by
  unfold Rng.step
  split
  · exact ⟨hg.low, hg.high⟩
  · split
    · exact ⟨hv, hv⟩
    · split
      · exact ⟨Val.null_ok, Val.null_ok⟩
      · refine ⟨?_, ?_⟩
        · dsimp only; split
          · exact hv
          · exact hg.low
        · dsimp only; split
          · exact hv
          · exact hg.high
theorem step_nulls (g : Rng) (v : Val) : g.nulls ≤ (g.step v).nulls ∧ (g.step v).nulls ≤ g.nulls + 1 := by
  unfold Rng.step
  repeat (first | (constructor <;> first | omega | (dsimp only; omega)) | split)
theorem foldR_ok (i : Nat) : ∀ (l : List (List Val)) (g : Rng), (∀ r ∈ l, ∀ v ∈ r, v.Ok) → g.Ok → (l.foldl (fun g r => g.step (atR r i)) g).Ok
  | [], g, _, hg => hg
  | r :: l, g, h, hg => foldR_ok i l _ (fun r hr => h r (by simp [hr])) (step_ok hg (atR_ok (h r (by simp)) i))
theorem foldR_nulls (i : Nat) : ∀ (l : List (List Val)) (g : Rng), g.nulls ≤ (l.foldl (fun g r => g.step (atR r i)) g).nulls ∧ (l.foldl (fun g r => g.step (atR r i)) g).nulls ≤ g.nulls + l.length
  | [], g => by simp
  | r :: l, g => by
    have h1 := foldR_nulls i l (g.step (atR r i))
    have h2 := step_nulls g (atR r i)
    simp only [List.foldl_cons, List.length_cons]
    omega
theorem rgRU_ok {rows : List (List Val)} (h : ∀ r ∈ rows, ∀ v ∈ r, v.Ok) (j i : Nat) : (rgRU rows j i).Ok := foldR_ok i _ _ (fun r hr => h r (List.mem_of_mem_take hr)) Rng.zero_ok
theorem rgR_ok {rows : List (List Val)} (h : ∀ r ∈ rows, ∀ v ∈ r, v.Ok) (i : Nat) : (rgR rows i).Ok := foldR_ok i _ _ h Rng.zero_ok
theorem rgRU_nulls (rows : List (List Val)) (j i : Nat) : 0 ≤ (rgRU rows j i).nulls ∧ (rgRU rows j i).nulls ≤ j := by
  have h := foldR_nulls i (rows.take j) Rng.zero
  have h2 : (rows.take j).length ≤ j := by simp; omega
  have h3 : Rng.zero.nulls = 0 := rfl
  unfold rgRU
  omega
theorem foldR_like (i : Nat) : ∀ (l : List (List Val)) (g h : Rng) (ws : List Val), g.Like h → RInv h ws → (l.foldl (fun g r => g.step (atR r i)) g).Like (l.foldl (fun g r => g.widen (atV r i)) h)
  | [], _, _, _, h, _ => h
  | r :: l, g, h, ws, hg, hi => foldR_like i l _ _ _ (step_like hg (atR_like r i) hi (atR_kind r i)) (hi.widen (atV r i))
theorem rgR_like (rows : List (List Val)) (i : Nat) : (rgR rows i).Like (rgAt rows i) := foldR_like i rows _ _ _ (Rng.Like.refl _) RInv.zero
theorem rgR_nulls (rows : List (List Val)) (i : Nat) : 0 ≤ (rgR rows i).nulls ∧ (rgR rows i).nulls ≤ rows.length := by
  have h := foldR_nulls i rows Rng.zero
  have h3 : Rng.zero.nulls = 0 := rfl
  unfold rgR
  omega
theorem colsRR_length (rows : List (List Val)) (n : Nat) : (colsRR rows n).length = n := by simp [colsRR]
theorem cmp_self (v : Val) : v.cmp v = 0 := by
  have := cmp_ord.anti v v
  omega
end Go.Proofs.Ytlcdjaclahhdnaa
namespace Go.Proofs.Ytlcdjaclahhdnaa
open Go.RowKit
set_option linter.unusedSimpArgs false
set_option linter.unusedVariables false
attribute [local irreducible] wpQuiet

theorem At.mid {w : World} {g : Nat} {vs : List Value} (h : Go.Proofs.Ytlcdjaclahhdnaa.At w g 0 vs) (f n : Nat) : Go.Proofs.Ytlcdjaclahhdnaa.At w g f ((vs.drop f).take n) :=
  At.of_get fun j v hv => by
    rw [List.getElem?_take] at hv
    split at hv
    · rw [List.getElem?_drop] at hv
      have := h.get (f + j) v hv
      rwa [Nat.zero_add] at this
    · cases hv
theorem size_rngR : (Try.prog.info? 146).map (·.size) = some 10 := by kernel_rfl
theorem agg_rngR : aggOk Try.prog 146 10 = true := by kernel_rfl
set_option maxRecDepth 100000 in
set_option maxHeartbeats 8000000 in
theorem one_of (rows : List (List Val)) (rv : Value) (i : Nat) (w : World) (hrows : RowsIn w rv rows) (hrl : rows.length ≤ 1000000) (hi9 : i ≤ 1000000) :
    Calls Try.prog 102 #[rv, .int .i64 (i : Int)] w fun e w' => e = .returned (.agg (rgR rows i).cells.toArray) ∧ Ext w w' := by
  obtain ⟨RA, rc, rfl, -⟩ := hrows.val
  have HR := Lib.hid hrows
  have HOK := Lib.hid (rows_ok hrows)
  clear hrows
  go_enter Try.func102, Try.ntmps102
  go_upto_region 2 with (refine wpList_storeA (vs' := [.int .i64 0, .int .i64 0, .int .i64 0, .int .i64 0, .float .f64 0, .string ⟨#[]⟩, .int .i64 0, .int .i64 0, .float .f64 0, .string ⟨#[]⟩]) (Rng.one9 rfl) (BoxAt.new (w := w.alloc (.cells #[.int .i64 0, .int .i64 0, .int .i64 0, .int .i64 0, .float .f64 0, .string ⟨#[]⟩, .int .i64 0, .int .i64 0, .float .f64 0, .string ⟨#[]⟩] 146)) (g := w.heap.size + 1) (vs := [.int .i64 0, .int .i64 0, .int .i64 0, .int .i64 0, .float .f64 0, .string ⟨#[]⟩, .int .i64 0, .int .i64 0, .float .f64 0, .string ⟨#[]⟩]) (t := 146) (by simp) rfl) size_rngR rfl rfl (.tmp 5) _ rfl rfl rfl ?_; intro w2 hq1 hq2; have HB1 := Lib.hid hq1; have HB0 := Lib.hid (But.box hq2 (show w.heap.size ≠ w.heap.size + 1 by omega) ((BoxAt.new (w := w) (vs := [.int .i64 0, .int .i64 0, .int .i64 0, .int .i64 0, .float .f64 0, .string ⟨#[]⟩, .int .i64 0, .int .i64 0, .float .f64 0, .string ⟨#[]⟩]) (t := 146) rfl rfl).ext ((Ext.refl _).alloc _))); have HE := Lib.hid (But.to_ext (((Ext.refl w).alloc (.cells #[.int .i64 0, .int .i64 0, .int .i64 0, .int .i64 0, .float .f64 0, .string ⟨#[]⟩, .int .i64 0, .int .i64 0, .float .f64 0, .string ⟨#[]⟩] 146)).alloc (.cells #[.int .i64 0, .int .i64 0, .int .i64 0, .int .i64 0, .float .f64 0, .string ⟨#[]⟩, .int .i64 0, .int .i64 0, .float .f64 0, .string ⟨#[]⟩] 146)) hq2 (by omega)); clear hq1 hq2)
  go_wp2_with fail
  go_loopw [6] (fun y wr => ∃ j : Nat, y = .int .i64 (j : Int) ∧ j ≤ rows.length ∧ BoxAt wr w.heap.size [.int .i64 0, .int .i64 0, .int .i64 0, .int .i64 0, .float .f64 0, .string ⟨#[]⟩, .int .i64 0, .int .i64 0, .float .f64 0, .string ⟨#[]⟩] ∧ BoxAt wr (w.heap.size + 1) (rgRU rows j i).cells ∧ Ext w wr) (fun y _ => rows.length - (intOf y).toNat)
  case atStart => exact ⟨0, rfl, by omega, HB0.out, HB1.out, HE.out⟩
  case round =>
    rename_i hrel
    obtain ⟨j, rfl, hj, hb0, hb1, hE⟩ := hrel
    clear HB0 HB1 HE
    have HR4 := Lib.hid hb0; have HG4 := Lib.hid hb1; have HE4 := Lib.hid hE
    have hwo : w.heap.size + 1 < wr.heap.size := hb1.lt
    clear hb0 hb1 hE
    by_cases hjlt : j < rows.length
    · have hjlt' : (j : Int) < (rows.length : Int) := by omega
      have hwj : wrap64 ((j : Int) + 1) = (j : Int) + 1 := by unfold wrap64; omega
      obtain ⟨gr, o, B, m, cb, rfl, -, rfl, hc, hv⟩ := (HR.out.ext HE4.out).at_ j hjlt
      have HC : Hid (wr.cell? ⟨gr, o + j, none⟩ = some (.slice B rows[j].length cb)) := Lib.hid hc
      have HCL : Hid (gr < wr.heap.size) := Lib.hid (cell_lt hc)
      have HV := Lib.hid hv
      have HQK := Lib.hid (atR_kind rows[j] i)
      have HQF : Hid ((atR rows[j] i).flt < 18446744073709551616) := Lib.hid (atR_ok hv.ok i).flt
      have HLF : Hid ((rgRU rows j i).low.flt < 18446744073709551616) := Lib.hid (rgRU_ok HOK.out j i).low.flt
      have HHF : Hid ((rgRU rows j i).high.flt < 18446744073709551616) := Lib.hid (rgRU_ok HOK.out j i).high.flt
      have hnl := rgRU_nulls rows j i
      have hwn : wrap64 ((rgRU rows j i).nulls + 1) = (rgRU rows j i).nulls + 1 := by unfold wrap64; omega
      have HST0 : Hid (rgRU rows (j + 1) i = (rgRU rows j i).step (atR rows[j] i)) := Lib.hid (rgRU_succ rows hjlt)
      clear hc hv hnl
      unfold Rng.cells at HG4
      generalize rgRU rows j i = gp at *
      go_upto_if 22 with (first
        | (refine wpList_storeA (vs' := [.int .i64 0, .int .i64 0, .float .f64 0, .string ⟨#[]⟩]) (Rng.one9 rfl) (BoxAt.new (w := wr) (g := wr.heap.size) (vs := [.int .i64 0, .int .i64 0, .float .f64 0, .string ⟨#[]⟩]) (t := 24) rfl rfl) sizeVal rfl rfl (.tmp 7) (.tmp 15) rfl rfl rfl ?_; intro w5 hq1 hq2; have HV5 := Lib.hid hq1; have HX5 : Hid (Ext wr w5) := Lib.hid (But.to_ext ((Ext.refl wr).alloc _) hq2 (Nat.le_refl _)); have HG5 := Lib.hid (HG4.out.ext HX5.out); have HR5 := Lib.hid (HR4.out.ext HX5.out); have HE5 := Lib.hid (HE4.out.trans HX5.out); have HC5 : Hid (w5.cell? ⟨gr, o + j, none⟩ = some (.slice B rows[j].length cb)) := Lib.hid ((HX5.out.cell HCL.out).trans HC.out); have hc5 := HC5.out; clear hq1 hq2)
        | (refine wpList_ixS (.tmp 17) _ (i := j) rfl rfl Try.underlying50 size_slice59 rfl rfl hjlt ?_)
        | (refine wpList_wish rfl fun K hK => wp_cell Try.underlying59 rfl (.tmp 19) rfl rfl HC5.out (hK _ _ ?_)))
      go_cut [6] (fun y wx => y = .int .i64 (j : Int) ∧ BoxAt wx wr.heap.size (atR rows[j] i).cells ∧ BoxAt wx (w.heap.size + 1) [.int .i64 gp.kind, .int .i64 gp.nulls, .int .i64 gp.low.kind, .int .i64 gp.low.int, .float .f64 gp.low.flt, .string gp.low.text, .int .i64 gp.high.kind, .int .i64 gp.high.int, .float .f64 gp.high.flt, .string gp.high.text] ∧ BoxAt wx w.heap.size [.int .i64 0, .int .i64 0, .int .i64 0, .int .i64 0, .float .f64 0, .string ⟨#[]⟩, .int .i64 0, .int .i64 0, .float .f64 0, .string ⟨#[]⟩] ∧ Ext w wx)
      case first =>
        by_cases hcol : i < rows[j].length
        · have hcol' : (i : Int) < (rows[j].length : Int) := by omega
          obtain ⟨g2, o2, rfl, -, hat, hok, hg2⟩ := (HV.out.ext HX5.out).at_ i hcol
          have e1 : atR rows[j] i = rows[j][i].plainR := by unfold atR; rw [List.getElem?_eq_getElem hcol]
          have HAT := Lib.hid hat; have HOKV := Lib.hid hok.flt
          have HPL : Hid (∀ u, Calls Try.prog 141 #[.agg #[.int .i64 rows[j][i].kind, .int .i64 rows[j][i].int, .float .f64 rows[j][i].flt, .string rows[j][i].text]] u fun e w' => e = .returned rows[j][i].plainR.enc ∧ Ext u w') := Lib.hid fun u => rplain_of _ u HOKV.out
          clear hat hok HQK HQF HST0 HLF HHF
          unfold Val.cells at HAT
          unfold Val.enc at HPL
          generalize rows[j][i].plainR = q at *
          generalize rows[j][i] = p at *
          go_wp2_with (first
            | (refine wpList_ixS (.tmp 23) _ (i := j) rfl rfl Try.underlying50 size_slice59 rfl rfl hjlt ?_)
            | (refine wpList_wish rfl fun K hK => wp_cell Try.underlying59 rfl (.tmp 25) rfl rfl HC5.out (hK _ _ ?_))
            | (refine wpList_ixS (.tmp 26) _ (i := i) rfl rfl Try.underlying59 sizeVal rfl rfl hcol ?_)
            | (refine wpList_wish rfl fun K hK => wp_loadA (vs := [.int .i64 p.kind, .int .i64 p.int, .float .f64 p.flt, .string p.text]) agg_val (.tmp 28) rfl rfl (HAT.out) (hK _ _ ?_))
            | (go_at_call 141; refine (HPL.out _).mono ?_; rintro ev w6 ⟨rfl, hb⟩; have HG6 := Lib.hid (HG5.out.ext hb); have HV6 := Lib.hid (HV5.out.ext hb); have HR6 := Lib.hid (HR5.out.ext hb); have HE6 := Lib.hid (HE5.out.trans hb); clear hb)
            | (refine wpList_storeA (vs' := [.int .i64 q.kind, .int .i64 q.int, .float .f64 q.flt, .string q.text]) (Rng.one9 rfl) HV6.out sizeVal rfl rfl (.tmp 7) (.tmp 30) rfl rfl rfl ?_; intro w7 hq1 hq2))
          go_meet
          exact ⟨rfl, by rw [e1]; exact hq1, But.box hq2 (by omega) HG6.out, But.box hq2 (by omega) HR6.out, But.to_ext HE6.out hq2 (by omega)⟩
        · have hcol' : ¬ (i : Int) < (rows[j].length : Int) := by omega
          have e1 : atR rows[j] i = Val.null := by unfold atR; rw [List.getElem?_eq_none (by omega)]
          clear HQK HQF HST0 HLF HHF
          go_wp2_with fail
          go_meet
          exact ⟨rfl, by rw [e1]; exact HV5.out, HG5.out, HR5.out, HE5.out⟩
      case rest =>
        obtain ⟨rfl, hv5, hg5, hr5, he5⟩ := hcut
        clear HV5 HG5 HR5 HE5 HX5 HC5 hc5 HC HV HCL HR4 HG4 HE4
        have HV5 := Lib.hid hv5; have HG5 := Lib.hid hg5; have HR5 := Lib.hid hr5; have HE5 := Lib.hid he5
        clear hv5 hg5 hr5 he5
        unfold Val.cells at HV5
        have hkq := HQK.out
        generalize atR rows[j] i = q at *
        obtain ⟨x5a, x5b, -⟩ := HG5.out.cells; obtain ⟨y5a, -⟩ := HV5.out.cells; simp only [Nat.zero_add, Nat.reduceAdd] at x5a x5b y5a; have HGL5 : Hid (At wc (w.heap.size + 1) 2 [.int .i64 gp.low.kind, .int .i64 gp.low.int, .float .f64 gp.low.flt, .string gp.low.text]) := Lib.hid (At.mid HG5.out.cells 2 4); have HGH5 : Hid (At wc (w.heap.size + 1) 6 [.int .i64 gp.high.kind, .int .i64 gp.high.int, .float .f64 gp.high.flt, .string gp.high.text]) := Lib.hid (At.mid HG5.out.cells 6 4)
        by_cases k0 : q.kind = 0
        · have HSTEP : Hid ((rgRU rows (j + 1) i).cells = [.int .i64 gp.kind, .int .i64 (gp.nulls + 1), .int .i64 gp.low.kind, .int .i64 gp.low.int, .float .f64 gp.low.flt, .string gp.low.text, .int .i64 gp.high.kind, .int .i64 gp.high.int, .float .f64 gp.high.flt, .string gp.high.text]) := Lib.hid (by rw [HST0.out]; unfold Rng.step; rw [if_pos k0]; rfl)
          have k0' : (q.kind == 0) = true := by simpa using k0
          clear HST0
          have z5 := HG5.out.free 1
          have hw6 : But (w.heap.size + 1) wc (wc.setCell ⟨w.heap.size + 1, 1, none⟩ (.int .i64 (gp.nulls + 1))) := But.set_ (p := ⟨w.heap.size + 1, 1, none⟩) (.inr rfl) _ (But.refl _ _)
          have hg6 := HG5.out.setAt9 (i := 1) (.int .i64 (gp.nulls + 1)) (by simp)
          simp only [List.set_cons_zero, List.set_cons_succ] at hg6
          have HG6 := Lib.hid hg6
          have HV6 := Lib.hid (But.box hw6 (by omega) HV5.out)
          have HR6 := Lib.hid (But.box hw6 (by omega) HR5.out)
          have HE6 := Lib.hid (But.to_ext HE5.out hw6 (by omega))
          clear hw6 hg6
          go_wp2_with fail
          exact ⟨⟨j + 1, by simp, by omega, HR6.out, by rw [HSTEP.out]; exact HG6.out, HE6.out⟩, by simp [intOf] <;> omega⟩
        by_cases k1 : gp.kind = 0
        · have HSTEP : Hid ((rgRU rows (j + 1) i).cells = [.int .i64 q.kind, .int .i64 gp.nulls, .int .i64 q.kind, .int .i64 q.int, .float .f64 q.flt, .string q.text, .int .i64 q.kind, .int .i64 q.int, .float .f64 q.flt, .string q.text]) := Lib.hid (by rw [HST0.out]; unfold Rng.step; rw [if_neg k0, if_pos k1]; rfl)
          have k0' : (q.kind == 0) = false := by simpa using k0
          have k1' : (gp.kind == 0) = true := by simpa using k1
          have hpos : 0 < q.kind := by omega
          have HCQ : Hid (∀ u, Calls Try.prog 98 #[.agg #[.int .i64 q.kind, .int .i64 q.int, .float .f64 q.flt, .string q.text], .agg #[.int .i64 q.kind, .int .i64 q.int, .float .f64 q.flt, .string q.text]] u fun e w' => e = .returned (.int .i64 0) ∧ Ext u w') := Lib.hid fun u => by have h := rcmp_of q q u HQF.out HQF.out; rw [cmp_self] at h; exact h
          clear HST0 k0 k1
          have z5 := HG5.out.free 0
          have hw6 : But (w.heap.size + 1) wc (wc.setCell ⟨w.heap.size + 1, 0, none⟩ (.int .i64 q.kind)) := But.set_ (p := ⟨w.heap.size + 1, 0, none⟩) (.inr rfl) _ (But.refl _ _)
          have hg6 := HG5.out.setAt9 (i := 0) (.int .i64 q.kind) (by simp)
          simp only [List.set_cons_zero, List.set_cons_succ] at hg6
          have HG6 := Lib.hid hg6
          have HV6 := Lib.hid (But.box hw6 (by omega) HV5.out)
          have HR6 := Lib.hid (But.box hw6 (by omega) HR5.out)
          have HE6 := Lib.hid (But.to_ext HE5.out hw6 (by omega))
          clear hw6 hg6
          go_upto_region 12 with fail
          go_upto_region 13 with (first
            | (refine wpList_wish rfl fun K hK => wp_loadA (vs := [.int .i64 q.kind, .int .i64 q.int, .float .f64 q.flt, .string q.text]) agg_val (.tmp 7) rfl rfl (HV6.out.cells) (hK _ _ ?_))
            | (refine wpList_storeM (f := 2) (vs' := [.int .i64 q.kind, .int .i64 q.int, .float .f64 q.flt, .string q.text]) (Rng.one9 rfl) HG6.out sizeVal (by simp) rfl rfl (.tmp 45) (.tmp 44) rfl rfl rfl ?_; intro w7 hq1 hq2; simp only [setMany, List.set_cons_zero, List.set_cons_succ] at hq1; have HG7 : Hid (BoxAt w7 (w.heap.size + 1) [.int .i64 q.kind, .int .i64 gp.nulls, .int .i64 q.kind, .int .i64 q.int, .float .f64 q.flt, .string q.text, .int .i64 gp.high.kind, .int .i64 gp.high.int, .float .f64 gp.high.flt, .string gp.high.text]) := Lib.hid hq1; have HV7 := Lib.hid (But.box hq2 (by omega) HV6.out); have HR7 := Lib.hid (But.box hq2 (by omega) HR6.out); have HE7 := Lib.hid (But.to_ext HE6.out hq2 (by omega)); clear hq1 hq2; obtain ⟨x7a, x7b, -⟩ := HG7.out.cells; obtain ⟨y7a, -⟩ := HV7.out.cells; simp only [Nat.zero_add, Nat.reduceAdd] at x7a x7b y7a; have HGL7 : Hid (At w7 (w.heap.size + 1) 2 [.int .i64 q.kind, .int .i64 q.int, .float .f64 q.flt, .string q.text]) := Lib.hid (At.mid HG7.out.cells 2 4); have HGH7 : Hid (At w7 (w.heap.size + 1) 6 [.int .i64 gp.high.kind, .int .i64 gp.high.int, .float .f64 gp.high.flt, .string gp.high.text]) := Lib.hid (At.mid HG7.out.cells 6 4)))
          go_upto_region 18 with (first
            | (refine wpList_wish rfl fun K hK => wp_loadA (vs := [.int .i64 q.kind, .int .i64 q.int, .float .f64 q.flt, .string q.text]) agg_val (.tmp 7) rfl rfl (HV7.out.cells) (hK _ _ ?_))
            | (refine wpList_storeM (f := 6) (vs' := [.int .i64 q.kind, .int .i64 q.int, .float .f64 q.flt, .string q.text]) (Rng.one9 rfl) HG7.out sizeVal (by simp) rfl rfl (.tmp 47) (.tmp 46) rfl rfl rfl ?_; intro w8 hq1 hq2; simp only [setMany, List.set_cons_zero, List.set_cons_succ] at hq1; have HG8 : Hid (BoxAt w8 (w.heap.size + 1) [.int .i64 q.kind, .int .i64 gp.nulls, .int .i64 q.kind, .int .i64 q.int, .float .f64 q.flt, .string q.text, .int .i64 q.kind, .int .i64 q.int, .float .f64 q.flt, .string q.text]) := Lib.hid hq1; have HV8 := Lib.hid (But.box hq2 (by omega) HV7.out); have HR8 := Lib.hid (But.box hq2 (by omega) HR7.out); have HE8 := Lib.hid (But.to_ext HE7.out hq2 (by omega)); clear hq1 hq2; obtain ⟨x8a, x8b, -⟩ := HG8.out.cells; obtain ⟨y8a, -⟩ := HV8.out.cells; simp only [Nat.zero_add, Nat.reduceAdd] at x8a x8b y8a; have HGL8 : Hid (At w8 (w.heap.size + 1) 2 [.int .i64 q.kind, .int .i64 q.int, .float .f64 q.flt, .string q.text]) := Lib.hid (At.mid HG8.out.cells 2 4); have HGH8 : Hid (At w8 (w.heap.size + 1) 6 [.int .i64 q.kind, .int .i64 q.int, .float .f64 q.flt, .string q.text]) := Lib.hid (At.mid HG8.out.cells 6 4)))
          go_upto_region 20 with (first
            | (refine wpList_wish rfl fun K hK => wp_loadA (vs := [.int .i64 q.kind, .int .i64 q.int, .float .f64 q.flt, .string q.text]) agg_val (.tmp 7) rfl rfl (HV8.out.cells) (hK _ _ ?_))
            | (refine wpList_wish rfl fun K hK => wp_loadA (vs := [.int .i64 q.kind, .int .i64 q.int, .float .f64 q.flt, .string q.text]) agg_val (.tmp 63) rfl rfl (HGL8.out) (hK _ _ ?_))
            | (go_at_call 98; refine (HCQ.out _).mono ?_; rintro ev w9 ⟨rfl, hb⟩; have HG9 := Lib.hid (HG8.out.ext hb); have HV9 := Lib.hid (HV8.out.ext hb); have HR9 := Lib.hid (HR8.out.ext hb); have HE9 := Lib.hid (HE8.out.trans hb); clear hb; clear x8a x8b y8a; obtain ⟨x9a, x9b, -⟩ := HG9.out.cells; obtain ⟨y9a, -⟩ := HV9.out.cells; simp only [Nat.zero_add, Nat.reduceAdd] at x9a x9b y9a; have HGL9 : Hid (At w9 (w.heap.size + 1) 2 [.int .i64 q.kind, .int .i64 q.int, .float .f64 q.flt, .string q.text]) := Lib.hid (At.mid HG9.out.cells 2 4); have HGH9 : Hid (At w9 (w.heap.size + 1) 6 [.int .i64 q.kind, .int .i64 q.int, .float .f64 q.flt, .string q.text]) := Lib.hid (At.mid HG9.out.cells 6 4)))
          go_wp2_with (first
            | (refine wpList_wish rfl fun K hK => wp_loadA (vs := [.int .i64 q.kind, .int .i64 q.int, .float .f64 q.flt, .string q.text]) agg_val (.tmp 7) rfl rfl (HV9.out.cells) (hK _ _ ?_))
            | (refine wpList_wish rfl fun K hK => wp_loadA (vs := [.int .i64 q.kind, .int .i64 q.int, .float .f64 q.flt, .string q.text]) agg_val (.tmp 75) rfl rfl (HGH9.out) (hK _ _ ?_))
            | (go_at_call 98; refine (HCQ.out _).mono ?_; rintro ev w10 ⟨rfl, hb⟩; have HG10 := Lib.hid (HG9.out.ext hb); have HV10 := Lib.hid (HV9.out.ext hb); have HR10 := Lib.hid (HR9.out.ext hb); have HE10 := Lib.hid (HE9.out.trans hb); clear hb; clear x9a x9b y9a; obtain ⟨x10a, x10b, -⟩ := HG10.out.cells; obtain ⟨y10a, -⟩ := HV10.out.cells; simp only [Nat.zero_add, Nat.reduceAdd] at x10a x10b y10a; have HGL10 : Hid (At w10 (w.heap.size + 1) 2 [.int .i64 q.kind, .int .i64 q.int, .float .f64 q.flt, .string q.text]) := Lib.hid (At.mid HG10.out.cells 2 4); have HGH10 : Hid (At w10 (w.heap.size + 1) 6 [.int .i64 q.kind, .int .i64 q.int, .float .f64 q.flt, .string q.text]) := Lib.hid (At.mid HG10.out.cells 6 4)))
          exact ⟨⟨j + 1, by simp, by omega, HR10.out, by rw [HSTEP.out]; exact HG10.out, HE10.out⟩, by simp [intOf] <;> omega⟩
        by_cases k2 : gp.kind ≠ q.kind
        · have HSTEP : Hid ((rgRU rows (j + 1) i).cells = [.int .i64 (-1), .int .i64 gp.nulls, .int .i64 0, .int .i64 0, .float .f64 0, .string ⟨#[]⟩, .int .i64 0, .int .i64 0, .float .f64 0, .string ⟨#[]⟩]) := Lib.hid (by rw [HST0.out]; unfold Rng.step; rw [if_neg k0, if_neg k1, if_pos k2]; rfl)
          have k0' : (q.kind == 0) = false := by simpa using k0
          have k1' : (gp.kind == 0) = false := by simpa using k1
          have k2' : (gp.kind != q.kind) = true := by simpa using k2
          clear HST0 k0 k1
          have z5 := HG5.out.free 0
          have hw6 : But (w.heap.size + 1) wc (wc.setCell ⟨w.heap.size + 1, 0, none⟩ (.int .i64 (-1))) := But.set_ (p := ⟨w.heap.size + 1, 0, none⟩) (.inr rfl) _ (But.refl _ _)
          have hg6 := HG5.out.setAt9 (i := 0) (.int .i64 (-1)) (by simp)
          simp only [List.set_cons_zero, List.set_cons_succ] at hg6
          have HG6 := Lib.hid hg6
          have HV6 := Lib.hid (But.box hw6 (by omega) HV5.out)
          have HR6 := Lib.hid (But.box hw6 (by omega) HR5.out)
          have HE6 := Lib.hid (But.to_ext HE5.out hw6 (by omega))
          clear hw6 hg6
          go_wp2_with (first
            | (refine wpList_storeM (f := 2) (vs' := [.int .i64 0, .int .i64 0, .float .f64 0, .string ⟨#[]⟩]) (Rng.one9 rfl) HG6.out sizeVal (by simp) rfl rfl (.tmp 55) (.tmp 54) rfl rfl rfl ?_; intro w7 hq1 hq2; simp only [setMany, List.set_cons_zero, List.set_cons_succ] at hq1; have HG7 : Hid (BoxAt w7 (w.heap.size + 1) [.int .i64 (-1), .int .i64 gp.nulls, .int .i64 0, .int .i64 0, .float .f64 0, .string ⟨#[]⟩, .int .i64 gp.high.kind, .int .i64 gp.high.int, .float .f64 gp.high.flt, .string gp.high.text]) := Lib.hid hq1; have HV7 := Lib.hid (But.box hq2 (by omega) HV6.out); have HR7 := Lib.hid (But.box hq2 (by omega) HR6.out); have HE7 := Lib.hid (But.to_ext HE6.out hq2 (by omega)); clear hq1 hq2; obtain ⟨x7a, x7b, -⟩ := HG7.out.cells; obtain ⟨y7a, -⟩ := HV7.out.cells; simp only [Nat.zero_add, Nat.reduceAdd] at x7a x7b y7a; have HGL7 : Hid (At w7 (w.heap.size + 1) 2 [.int .i64 0, .int .i64 0, .float .f64 0, .string ⟨#[]⟩]) := Lib.hid (At.mid HG7.out.cells 2 4); have HGH7 : Hid (At w7 (w.heap.size + 1) 6 [.int .i64 gp.high.kind, .int .i64 gp.high.int, .float .f64 gp.high.flt, .string gp.high.text]) := Lib.hid (At.mid HG7.out.cells 6 4))
            | (refine wpList_storeM (f := 6) (vs' := [.int .i64 0, .int .i64 0, .float .f64 0, .string ⟨#[]⟩]) (Rng.one9 rfl) HG7.out sizeVal (by simp) rfl rfl (.tmp 57) (.tmp 56) rfl rfl rfl ?_; intro w8 hq1 hq2; simp only [setMany, List.set_cons_zero, List.set_cons_succ] at hq1; have HG8 : Hid (BoxAt w8 (w.heap.size + 1) [.int .i64 (-1), .int .i64 gp.nulls, .int .i64 0, .int .i64 0, .float .f64 0, .string ⟨#[]⟩, .int .i64 0, .int .i64 0, .float .f64 0, .string ⟨#[]⟩]) := Lib.hid hq1; have HV8 := Lib.hid (But.box hq2 (by omega) HV7.out); have HR8 := Lib.hid (But.box hq2 (by omega) HR7.out); have HE8 := Lib.hid (But.to_ext HE7.out hq2 (by omega)); clear hq1 hq2; obtain ⟨x8a, x8b, -⟩ := HG8.out.cells; obtain ⟨y8a, -⟩ := HV8.out.cells; simp only [Nat.zero_add, Nat.reduceAdd] at x8a x8b y8a; have HGL8 : Hid (At w8 (w.heap.size + 1) 2 [.int .i64 0, .int .i64 0, .float .f64 0, .string ⟨#[]⟩]) := Lib.hid (At.mid HG8.out.cells 2 4); have HGH8 : Hid (At w8 (w.heap.size + 1) 6 [.int .i64 0, .int .i64 0, .float .f64 0, .string ⟨#[]⟩]) := Lib.hid (At.mid HG8.out.cells 6 4)))
          exact ⟨⟨j + 1, by simp, by omega, HR8.out, by rw [HSTEP.out]; exact HG8.out, HE8.out⟩, by simp [intOf] <;> omega⟩
        have k0' : (q.kind == 0) = false := by simpa using k0
        have k3 : gp.kind = q.kind := Decidable.not_not.1 k2
        have hpos : 0 < gp.kind := by omega
        have k1' : (gp.kind == 0) = false := by simpa using k1
        have k2' : (gp.kind != q.kind) = false := by simpa using k3
        have HC1 : Hid (∀ u, Calls Try.prog 98 #[.agg #[.int .i64 q.kind, .int .i64 q.int, .float .f64 q.flt, .string q.text], .agg #[.int .i64 gp.low.kind, .int .i64 gp.low.int, .float .f64 gp.low.flt, .string gp.low.text]] u fun e w' => e = .returned (.int .i64 (q.cmp gp.low)) ∧ Ext u w') := Lib.hid fun u => rcmp_of q gp.low u HQF.out HLF.out
        have HC2 : Hid (∀ u, Calls Try.prog 98 #[.agg #[.int .i64 q.kind, .int .i64 q.int, .float .f64 q.flt, .string q.text], .agg #[.int .i64 gp.high.kind, .int .i64 gp.high.int, .float .f64 gp.high.flt, .string gp.high.text]] u fun e w' => e = .returned (.int .i64 (q.cmp gp.high)) ∧ Ext u w') := Lib.hid fun u => rcmp_of q gp.high u HQF.out HHF.out
        have HST1 : Hid ((rgRU rows (j + 1) i) = ⟨gp.kind, gp.nulls, if q.cmp gp.low < 0 then q else gp.low, if 0 < q.cmp gp.high then q else gp.high⟩) := Lib.hid (by rw [HST0.out]; unfold Rng.step; rw [if_neg k0, if_neg k1, if_neg k2])
        clear HST0 k0 k1 k2 k3
        generalize q.cmp gp.low = c1 at *
        generalize q.cmp gp.high = c2 at *
        by_cases hl : c1 < 0
        · by_cases hh : 0 < c2
          · have HSTEP : Hid ((rgRU rows (j + 1) i).cells = [.int .i64 gp.kind, .int .i64 gp.nulls, .int .i64 q.kind, .int .i64 q.int, .float .f64 q.flt, .string q.text, .int .i64 q.kind, .int .i64 q.int, .float .f64 q.flt, .string q.text]) := Lib.hid (by rw [HST1.out]; rw [if_pos hl, if_pos hh]; rfl)
            clear HST1
            go_upto_region 19 with (first
              | (refine wpList_wish rfl fun K hK => wp_loadA (vs := [.int .i64 q.kind, .int .i64 q.int, .float .f64 q.flt, .string q.text]) agg_val (.tmp 7) rfl rfl (HV5.out.cells) (hK _ _ ?_))
              | (refine wpList_wish rfl fun K hK => wp_loadA (vs := [.int .i64 gp.low.kind, .int .i64 gp.low.int, .float .f64 gp.low.flt, .string gp.low.text]) agg_val (.tmp 63) rfl rfl (HGL5.out) (hK _ _ ?_))
              | (go_at_call 98; refine (HC1.out _).mono ?_; rintro ev w6 ⟨rfl, hb⟩; have HG6 := Lib.hid (HG5.out.ext hb); have HV6 := Lib.hid (HV5.out.ext hb); have HR6 := Lib.hid (HR5.out.ext hb); have HE6 := Lib.hid (HE5.out.trans hb); clear hb; clear x5a x5b y5a; obtain ⟨x6a, x6b, -⟩ := HG6.out.cells; obtain ⟨y6a, -⟩ := HV6.out.cells; simp only [Nat.zero_add, Nat.reduceAdd] at x6a x6b y6a; have HGL6 : Hid (At w6 (w.heap.size + 1) 2 [.int .i64 gp.low.kind, .int .i64 gp.low.int, .float .f64 gp.low.flt, .string gp.low.text]) := Lib.hid (At.mid HG6.out.cells 2 4); have HGH6 : Hid (At w6 (w.heap.size + 1) 6 [.int .i64 gp.high.kind, .int .i64 gp.high.int, .float .f64 gp.high.flt, .string gp.high.text]) := Lib.hid (At.mid HG6.out.cells 6 4)))
            go_upto_region 20 with (first
              | (refine wpList_wish rfl fun K hK => wp_loadA (vs := [.int .i64 q.kind, .int .i64 q.int, .float .f64 q.flt, .string q.text]) agg_val (.tmp 7) rfl rfl (HV6.out.cells) (hK _ _ ?_))
              | (refine wpList_storeM (f := 2) (vs' := [.int .i64 q.kind, .int .i64 q.int, .float .f64 q.flt, .string q.text]) (Rng.one9 rfl) HG6.out sizeVal (by simp) rfl rfl (.tmp 69) (.tmp 68) rfl rfl rfl ?_; intro w7 hq1 hq2; simp only [setMany, List.set_cons_zero, List.set_cons_succ] at hq1; have HG7 : Hid (BoxAt w7 (w.heap.size + 1) [.int .i64 gp.kind, .int .i64 gp.nulls, .int .i64 q.kind, .int .i64 q.int, .float .f64 q.flt, .string q.text, .int .i64 gp.high.kind, .int .i64 gp.high.int, .float .f64 gp.high.flt, .string gp.high.text]) := Lib.hid hq1; have HV7 := Lib.hid (But.box hq2 (by omega) HV6.out); have HR7 := Lib.hid (But.box hq2 (by omega) HR6.out); have HE7 := Lib.hid (But.to_ext HE6.out hq2 (by omega)); clear hq1 hq2; obtain ⟨x7a, x7b, -⟩ := HG7.out.cells; obtain ⟨y7a, -⟩ := HV7.out.cells; simp only [Nat.zero_add, Nat.reduceAdd] at x7a x7b y7a; have HGL7 : Hid (At w7 (w.heap.size + 1) 2 [.int .i64 q.kind, .int .i64 q.int, .float .f64 q.flt, .string q.text]) := Lib.hid (At.mid HG7.out.cells 2 4); have HGH7 : Hid (At w7 (w.heap.size + 1) 6 [.int .i64 gp.high.kind, .int .i64 gp.high.int, .float .f64 gp.high.flt, .string gp.high.text]) := Lib.hid (At.mid HG7.out.cells 6 4)))
            go_upto_region 21 with (first
              | (refine wpList_wish rfl fun K hK => wp_loadA (vs := [.int .i64 q.kind, .int .i64 q.int, .float .f64 q.flt, .string q.text]) agg_val (.tmp 7) rfl rfl (HV7.out.cells) (hK _ _ ?_))
              | (refine wpList_wish rfl fun K hK => wp_loadA (vs := [.int .i64 gp.high.kind, .int .i64 gp.high.int, .float .f64 gp.high.flt, .string gp.high.text]) agg_val (.tmp 75) rfl rfl (HGH7.out) (hK _ _ ?_))
              | (go_at_call 98; refine (HC2.out _).mono ?_; rintro ev w8 ⟨rfl, hb⟩; have HG8 := Lib.hid (HG7.out.ext hb); have HV8 := Lib.hid (HV7.out.ext hb); have HR8 := Lib.hid (HR7.out.ext hb); have HE8 := Lib.hid (HE7.out.trans hb); clear hb; clear x7a x7b y7a; obtain ⟨x8a, x8b, -⟩ := HG8.out.cells; obtain ⟨y8a, -⟩ := HV8.out.cells; simp only [Nat.zero_add, Nat.reduceAdd] at x8a x8b y8a; have HGL8 : Hid (At w8 (w.heap.size + 1) 2 [.int .i64 q.kind, .int .i64 q.int, .float .f64 q.flt, .string q.text]) := Lib.hid (At.mid HG8.out.cells 2 4); have HGH8 : Hid (At w8 (w.heap.size + 1) 6 [.int .i64 gp.high.kind, .int .i64 gp.high.int, .float .f64 gp.high.flt, .string gp.high.text]) := Lib.hid (At.mid HG8.out.cells 6 4)))
            go_wp2_with (first
              | (refine wpList_wish rfl fun K hK => wp_loadA (vs := [.int .i64 q.kind, .int .i64 q.int, .float .f64 q.flt, .string q.text]) agg_val (.tmp 7) rfl rfl (HV8.out.cells) (hK _ _ ?_))
              | (refine wpList_storeM (f := 6) (vs' := [.int .i64 q.kind, .int .i64 q.int, .float .f64 q.flt, .string q.text]) (Rng.one9 rfl) HG8.out sizeVal (by simp) rfl rfl (.tmp 81) (.tmp 80) rfl rfl rfl ?_; intro w9 hq1 hq2; simp only [setMany, List.set_cons_zero, List.set_cons_succ] at hq1; have HG9 : Hid (BoxAt w9 (w.heap.size + 1) [.int .i64 gp.kind, .int .i64 gp.nulls, .int .i64 q.kind, .int .i64 q.int, .float .f64 q.flt, .string q.text, .int .i64 q.kind, .int .i64 q.int, .float .f64 q.flt, .string q.text]) := Lib.hid hq1; have HV9 := Lib.hid (But.box hq2 (by omega) HV8.out); have HR9 := Lib.hid (But.box hq2 (by omega) HR8.out); have HE9 := Lib.hid (But.to_ext HE8.out hq2 (by omega)); clear hq1 hq2; obtain ⟨x9a, x9b, -⟩ := HG9.out.cells; obtain ⟨y9a, -⟩ := HV9.out.cells; simp only [Nat.zero_add, Nat.reduceAdd] at x9a x9b y9a; have HGL9 : Hid (At w9 (w.heap.size + 1) 2 [.int .i64 q.kind, .int .i64 q.int, .float .f64 q.flt, .string q.text]) := Lib.hid (At.mid HG9.out.cells 2 4); have HGH9 : Hid (At w9 (w.heap.size + 1) 6 [.int .i64 q.kind, .int .i64 q.int, .float .f64 q.flt, .string q.text]) := Lib.hid (At.mid HG9.out.cells 6 4)))
            exact ⟨⟨j + 1, by simp, by omega, HR9.out, by rw [HSTEP.out]; exact HG9.out, HE9.out⟩, by simp [intOf] <;> omega⟩
          · have HSTEP : Hid ((rgRU rows (j + 1) i).cells = [.int .i64 gp.kind, .int .i64 gp.nulls, .int .i64 q.kind, .int .i64 q.int, .float .f64 q.flt, .string q.text, .int .i64 gp.high.kind, .int .i64 gp.high.int, .float .f64 gp.high.flt, .string gp.high.text]) := Lib.hid (by rw [HST1.out]; rw [if_pos hl, if_neg hh]; rfl)
            clear HST1
            go_upto_region 19 with (first
              | (refine wpList_wish rfl fun K hK => wp_loadA (vs := [.int .i64 q.kind, .int .i64 q.int, .float .f64 q.flt, .string q.text]) agg_val (.tmp 7) rfl rfl (HV5.out.cells) (hK _ _ ?_))
              | (refine wpList_wish rfl fun K hK => wp_loadA (vs := [.int .i64 gp.low.kind, .int .i64 gp.low.int, .float .f64 gp.low.flt, .string gp.low.text]) agg_val (.tmp 63) rfl rfl (HGL5.out) (hK _ _ ?_))
              | (go_at_call 98; refine (HC1.out _).mono ?_; rintro ev w6 ⟨rfl, hb⟩; have HG6 := Lib.hid (HG5.out.ext hb); have HV6 := Lib.hid (HV5.out.ext hb); have HR6 := Lib.hid (HR5.out.ext hb); have HE6 := Lib.hid (HE5.out.trans hb); clear hb; clear x5a x5b y5a; obtain ⟨x6a, x6b, -⟩ := HG6.out.cells; obtain ⟨y6a, -⟩ := HV6.out.cells; simp only [Nat.zero_add, Nat.reduceAdd] at x6a x6b y6a; have HGL6 : Hid (At w6 (w.heap.size + 1) 2 [.int .i64 gp.low.kind, .int .i64 gp.low.int, .float .f64 gp.low.flt, .string gp.low.text]) := Lib.hid (At.mid HG6.out.cells 2 4); have HGH6 : Hid (At w6 (w.heap.size + 1) 6 [.int .i64 gp.high.kind, .int .i64 gp.high.int, .float .f64 gp.high.flt, .string gp.high.text]) := Lib.hid (At.mid HG6.out.cells 6 4)))
            go_upto_region 20 with (first
              | (refine wpList_wish rfl fun K hK => wp_loadA (vs := [.int .i64 q.kind, .int .i64 q.int, .float .f64 q.flt, .string q.text]) agg_val (.tmp 7) rfl rfl (HV6.out.cells) (hK _ _ ?_))
              | (refine wpList_storeM (f := 2) (vs' := [.int .i64 q.kind, .int .i64 q.int, .float .f64 q.flt, .string q.text]) (Rng.one9 rfl) HG6.out sizeVal (by simp) rfl rfl (.tmp 69) (.tmp 68) rfl rfl rfl ?_; intro w7 hq1 hq2; simp only [setMany, List.set_cons_zero, List.set_cons_succ] at hq1; have HG7 : Hid (BoxAt w7 (w.heap.size + 1) [.int .i64 gp.kind, .int .i64 gp.nulls, .int .i64 q.kind, .int .i64 q.int, .float .f64 q.flt, .string q.text, .int .i64 gp.high.kind, .int .i64 gp.high.int, .float .f64 gp.high.flt, .string gp.high.text]) := Lib.hid hq1; have HV7 := Lib.hid (But.box hq2 (by omega) HV6.out); have HR7 := Lib.hid (But.box hq2 (by omega) HR6.out); have HE7 := Lib.hid (But.to_ext HE6.out hq2 (by omega)); clear hq1 hq2; obtain ⟨x7a, x7b, -⟩ := HG7.out.cells; obtain ⟨y7a, -⟩ := HV7.out.cells; simp only [Nat.zero_add, Nat.reduceAdd] at x7a x7b y7a; have HGL7 : Hid (At w7 (w.heap.size + 1) 2 [.int .i64 q.kind, .int .i64 q.int, .float .f64 q.flt, .string q.text]) := Lib.hid (At.mid HG7.out.cells 2 4); have HGH7 : Hid (At w7 (w.heap.size + 1) 6 [.int .i64 gp.high.kind, .int .i64 gp.high.int, .float .f64 gp.high.flt, .string gp.high.text]) := Lib.hid (At.mid HG7.out.cells 6 4)))
            go_wp2_with (first
              | (refine wpList_wish rfl fun K hK => wp_loadA (vs := [.int .i64 q.kind, .int .i64 q.int, .float .f64 q.flt, .string q.text]) agg_val (.tmp 7) rfl rfl (HV7.out.cells) (hK _ _ ?_))
              | (refine wpList_wish rfl fun K hK => wp_loadA (vs := [.int .i64 gp.high.kind, .int .i64 gp.high.int, .float .f64 gp.high.flt, .string gp.high.text]) agg_val (.tmp 75) rfl rfl (HGH7.out) (hK _ _ ?_))
              | (go_at_call 98; refine (HC2.out _).mono ?_; rintro ev w8 ⟨rfl, hb⟩; have HG8 := Lib.hid (HG7.out.ext hb); have HV8 := Lib.hid (HV7.out.ext hb); have HR8 := Lib.hid (HR7.out.ext hb); have HE8 := Lib.hid (HE7.out.trans hb); clear hb; clear x7a x7b y7a; obtain ⟨x8a, x8b, -⟩ := HG8.out.cells; obtain ⟨y8a, -⟩ := HV8.out.cells; simp only [Nat.zero_add, Nat.reduceAdd] at x8a x8b y8a; have HGL8 : Hid (At w8 (w.heap.size + 1) 2 [.int .i64 q.kind, .int .i64 q.int, .float .f64 q.flt, .string q.text]) := Lib.hid (At.mid HG8.out.cells 2 4); have HGH8 : Hid (At w8 (w.heap.size + 1) 6 [.int .i64 gp.high.kind, .int .i64 gp.high.int, .float .f64 gp.high.flt, .string gp.high.text]) := Lib.hid (At.mid HG8.out.cells 6 4)))
            exact ⟨⟨j + 1, by simp, by omega, HR8.out, by rw [HSTEP.out]; exact HG8.out, HE8.out⟩, by simp [intOf] <;> omega⟩
        · by_cases hh : 0 < c2
          · have HSTEP : Hid ((rgRU rows (j + 1) i).cells = [.int .i64 gp.kind, .int .i64 gp.nulls, .int .i64 gp.low.kind, .int .i64 gp.low.int, .float .f64 gp.low.flt, .string gp.low.text, .int .i64 q.kind, .int .i64 q.int, .float .f64 q.flt, .string q.text]) := Lib.hid (by rw [HST1.out]; rw [if_neg hl, if_pos hh]; rfl)
            clear HST1
            go_upto_region 20 with (first
              | (refine wpList_wish rfl fun K hK => wp_loadA (vs := [.int .i64 q.kind, .int .i64 q.int, .float .f64 q.flt, .string q.text]) agg_val (.tmp 7) rfl rfl (HV5.out.cells) (hK _ _ ?_))
              | (refine wpList_wish rfl fun K hK => wp_loadA (vs := [.int .i64 gp.low.kind, .int .i64 gp.low.int, .float .f64 gp.low.flt, .string gp.low.text]) agg_val (.tmp 63) rfl rfl (HGL5.out) (hK _ _ ?_))
              | (go_at_call 98; refine (HC1.out _).mono ?_; rintro ev w6 ⟨rfl, hb⟩; have HG6 := Lib.hid (HG5.out.ext hb); have HV6 := Lib.hid (HV5.out.ext hb); have HR6 := Lib.hid (HR5.out.ext hb); have HE6 := Lib.hid (HE5.out.trans hb); clear hb; clear x5a x5b y5a; obtain ⟨x6a, x6b, -⟩ := HG6.out.cells; obtain ⟨y6a, -⟩ := HV6.out.cells; simp only [Nat.zero_add, Nat.reduceAdd] at x6a x6b y6a; have HGL6 : Hid (At w6 (w.heap.size + 1) 2 [.int .i64 gp.low.kind, .int .i64 gp.low.int, .float .f64 gp.low.flt, .string gp.low.text]) := Lib.hid (At.mid HG6.out.cells 2 4); have HGH6 : Hid (At w6 (w.heap.size + 1) 6 [.int .i64 gp.high.kind, .int .i64 gp.high.int, .float .f64 gp.high.flt, .string gp.high.text]) := Lib.hid (At.mid HG6.out.cells 6 4)))
            go_upto_region 21 with (first
              | (refine wpList_wish rfl fun K hK => wp_loadA (vs := [.int .i64 q.kind, .int .i64 q.int, .float .f64 q.flt, .string q.text]) agg_val (.tmp 7) rfl rfl (HV6.out.cells) (hK _ _ ?_))
              | (refine wpList_wish rfl fun K hK => wp_loadA (vs := [.int .i64 gp.high.kind, .int .i64 gp.high.int, .float .f64 gp.high.flt, .string gp.high.text]) agg_val (.tmp 75) rfl rfl (HGH6.out) (hK _ _ ?_))
              | (go_at_call 98; refine (HC2.out _).mono ?_; rintro ev w7 ⟨rfl, hb⟩; have HG7 := Lib.hid (HG6.out.ext hb); have HV7 := Lib.hid (HV6.out.ext hb); have HR7 := Lib.hid (HR6.out.ext hb); have HE7 := Lib.hid (HE6.out.trans hb); clear hb; clear x6a x6b y6a; obtain ⟨x7a, x7b, -⟩ := HG7.out.cells; obtain ⟨y7a, -⟩ := HV7.out.cells; simp only [Nat.zero_add, Nat.reduceAdd] at x7a x7b y7a; have HGL7 : Hid (At w7 (w.heap.size + 1) 2 [.int .i64 gp.low.kind, .int .i64 gp.low.int, .float .f64 gp.low.flt, .string gp.low.text]) := Lib.hid (At.mid HG7.out.cells 2 4); have HGH7 : Hid (At w7 (w.heap.size + 1) 6 [.int .i64 gp.high.kind, .int .i64 gp.high.int, .float .f64 gp.high.flt, .string gp.high.text]) := Lib.hid (At.mid HG7.out.cells 6 4)))
            go_wp2_with (first
              | (refine wpList_wish rfl fun K hK => wp_loadA (vs := [.int .i64 q.kind, .int .i64 q.int, .float .f64 q.flt, .string q.text]) agg_val (.tmp 7) rfl rfl (HV7.out.cells) (hK _ _ ?_))
              | (refine wpList_storeM (f := 6) (vs' := [.int .i64 q.kind, .int .i64 q.int, .float .f64 q.flt, .string q.text]) (Rng.one9 rfl) HG7.out sizeVal (by simp) rfl rfl (.tmp 81) (.tmp 80) rfl rfl rfl ?_; intro w8 hq1 hq2; simp only [setMany, List.set_cons_zero, List.set_cons_succ] at hq1; have HG8 : Hid (BoxAt w8 (w.heap.size + 1) [.int .i64 gp.kind, .int .i64 gp.nulls, .int .i64 gp.low.kind, .int .i64 gp.low.int, .float .f64 gp.low.flt, .string gp.low.text, .int .i64 q.kind, .int .i64 q.int, .float .f64 q.flt, .string q.text]) := Lib.hid hq1; have HV8 := Lib.hid (But.box hq2 (by omega) HV7.out); have HR8 := Lib.hid (But.box hq2 (by omega) HR7.out); have HE8 := Lib.hid (But.to_ext HE7.out hq2 (by omega)); clear hq1 hq2; obtain ⟨x8a, x8b, -⟩ := HG8.out.cells; obtain ⟨y8a, -⟩ := HV8.out.cells; simp only [Nat.zero_add, Nat.reduceAdd] at x8a x8b y8a; have HGL8 : Hid (At w8 (w.heap.size + 1) 2 [.int .i64 gp.low.kind, .int .i64 gp.low.int, .float .f64 gp.low.flt, .string gp.low.text]) := Lib.hid (At.mid HG8.out.cells 2 4); have HGH8 : Hid (At w8 (w.heap.size + 1) 6 [.int .i64 q.kind, .int .i64 q.int, .float .f64 q.flt, .string q.text]) := Lib.hid (At.mid HG8.out.cells 6 4)))
            exact ⟨⟨j + 1, by simp, by omega, HR8.out, by rw [HSTEP.out]; exact HG8.out, HE8.out⟩, by simp [intOf] <;> omega⟩
          · have HSTEP : Hid ((rgRU rows (j + 1) i).cells = [.int .i64 gp.kind, .int .i64 gp.nulls, .int .i64 gp.low.kind, .int .i64 gp.low.int, .float .f64 gp.low.flt, .string gp.low.text, .int .i64 gp.high.kind, .int .i64 gp.high.int, .float .f64 gp.high.flt, .string gp.high.text]) := Lib.hid (by rw [HST1.out]; rw [if_neg hl, if_neg hh]; rfl)
            clear HST1
            go_upto_region 20 with (first
              | (refine wpList_wish rfl fun K hK => wp_loadA (vs := [.int .i64 q.kind, .int .i64 q.int, .float .f64 q.flt, .string q.text]) agg_val (.tmp 7) rfl rfl (HV5.out.cells) (hK _ _ ?_))
              | (refine wpList_wish rfl fun K hK => wp_loadA (vs := [.int .i64 gp.low.kind, .int .i64 gp.low.int, .float .f64 gp.low.flt, .string gp.low.text]) agg_val (.tmp 63) rfl rfl (HGL5.out) (hK _ _ ?_))
              | (go_at_call 98; refine (HC1.out _).mono ?_; rintro ev w6 ⟨rfl, hb⟩; have HG6 := Lib.hid (HG5.out.ext hb); have HV6 := Lib.hid (HV5.out.ext hb); have HR6 := Lib.hid (HR5.out.ext hb); have HE6 := Lib.hid (HE5.out.trans hb); clear hb; clear x5a x5b y5a; obtain ⟨x6a, x6b, -⟩ := HG6.out.cells; obtain ⟨y6a, -⟩ := HV6.out.cells; simp only [Nat.zero_add, Nat.reduceAdd] at x6a x6b y6a; have HGL6 : Hid (At w6 (w.heap.size + 1) 2 [.int .i64 gp.low.kind, .int .i64 gp.low.int, .float .f64 gp.low.flt, .string gp.low.text]) := Lib.hid (At.mid HG6.out.cells 2 4); have HGH6 : Hid (At w6 (w.heap.size + 1) 6 [.int .i64 gp.high.kind, .int .i64 gp.high.int, .float .f64 gp.high.flt, .string gp.high.text]) := Lib.hid (At.mid HG6.out.cells 6 4)))
            go_wp2_with (first
              | (refine wpList_wish rfl fun K hK => wp_loadA (vs := [.int .i64 q.kind, .int .i64 q.int, .float .f64 q.flt, .string q.text]) agg_val (.tmp 7) rfl rfl (HV6.out.cells) (hK _ _ ?_))
              | (refine wpList_wish rfl fun K hK => wp_loadA (vs := [.int .i64 gp.high.kind, .int .i64 gp.high.int, .float .f64 gp.high.flt, .string gp.high.text]) agg_val (.tmp 75) rfl rfl (HGH6.out) (hK _ _ ?_))
              | (go_at_call 98; refine (HC2.out _).mono ?_; rintro ev w7 ⟨rfl, hb⟩; have HG7 := Lib.hid (HG6.out.ext hb); have HV7 := Lib.hid (HV6.out.ext hb); have HR7 := Lib.hid (HR6.out.ext hb); have HE7 := Lib.hid (HE6.out.trans hb); clear hb; clear x6a x6b y6a; obtain ⟨x7a, x7b, -⟩ := HG7.out.cells; obtain ⟨y7a, -⟩ := HV7.out.cells; simp only [Nat.zero_add, Nat.reduceAdd] at x7a x7b y7a; have HGL7 : Hid (At w7 (w.heap.size + 1) 2 [.int .i64 gp.low.kind, .int .i64 gp.low.int, .float .f64 gp.low.flt, .string gp.low.text]) := Lib.hid (At.mid HG7.out.cells 2 4); have HGH7 : Hid (At w7 (w.heap.size + 1) 6 [.int .i64 gp.high.kind, .int .i64 gp.high.int, .float .f64 gp.high.flt, .string gp.high.text]) := Lib.hid (At.mid HG7.out.cells 6 4)))
            exact ⟨⟨j + 1, by simp, by omega, HR7.out, by rw [HSTEP.out]; exact HG7.out, HE7.out⟩, by simp [intOf] <;> omega⟩
    · have hjlt' : ¬ ((j : Int) < (rows.length : Int)) := by omega
      obtain rfl : j = rows.length := by omega
      obtain ⟨gp, hgp⟩ : ∃ gp, gp = rgR rows i := ⟨_, rfl⟩
      have HGN : Hid (rgRU rows rows.length i = gp) := Lib.hid (by rw [hgp]; unfold rgRU rgR; rw [List.take_length])
      rw [HGN.out] at HG4
      clear HGN HR HOK
      unfold Rng.cells at HG4
      go_wp2_with (first
        | (refine wpList_ldA (.tmp 5) (vs := [.int .i64 gp.kind, .int .i64 gp.nulls, .int .i64 gp.low.kind, .int .i64 gp.low.int, .float .f64 gp.low.flt, .string gp.low.text, .int .i64 gp.high.kind, .int .i64 gp.high.int, .float .f64 gp.high.flt, .string gp.high.text]) rfl rfl agg_rngR rfl (HG4.out.cells) ?_)
        | (refine wpList_storeA (vs' := [.int .i64 gp.kind, .int .i64 gp.nulls, .int .i64 gp.low.kind, .int .i64 gp.low.int, .float .f64 gp.low.flt, .string gp.low.text, .int .i64 gp.high.kind, .int .i64 gp.high.int, .float .f64 gp.high.flt, .string gp.high.text]) (Rng.one9 rfl) (HR4.out) size_rngR rfl rfl (.tmp 4) _ rfl rfl rfl ?_; intro w9 hq1 hq2))
      exact back_cell rfl [.int .i64 gp.kind, .int .i64 gp.nulls, .int .i64 gp.low.kind, .int .i64 gp.low.int, .float .f64 gp.low.flt, .string gp.low.text, .int .i64 gp.high.kind, .int .i64 gp.high.int, .float .f64 gp.high.flt, .string gp.high.text] rfl agg_rngR rfl hq1.cells ⟨by rw [← hgp]; rfl, But.to_ext HE4.out hq2 (by omega)⟩
end Go.Proofs.Ytlcdjaclahhdnaa
namespace Go.Proofs.Ytlcdjaclahhdnaa
open Go.RowKit
set_option linter.unusedSimpArgs false
set_option linter.unusedVariables false
attribute [local irreducible] wpQuiet

theorem size_rngR9 : (Try.prog.info? 146).map (·.size) = some 10 := by kernel_rfl
set_option maxRecDepth 100000 in
set_option maxHeartbeats 4000000 in
theorem known_of (zr rel : Int) (cols : List Rng) (zs : Value) (e : Ex) (es : Value) (w : World) (hz : RngsIn w zs cols) (he : Ex.In w e es) (hc : 0 ≤ e.col) :
    Calls Try.prog 106 #[.agg #[.int .i64 zr, zs], .int .i64 rel, .agg (e.cells es).toArray] w fun ev w' => ev = .returned (.bool (colE cols rel e).isSome) ∧ Ext w w' := by
  obtain ⟨-, EA, ecap, rfl, -⟩ := he.mk_inv.2.2.2.2
  obtain ⟨ZA, zcap, rfl, -⟩ := hz.val
  obtain ⟨n, hn⟩ : ∃ n : Nat, e.col = (n : Int) := ⟨e.col.toNat, by omega⟩
  clear hz he hc
  have hcol : (colE cols rel e).isSome = (if e.kind = 1 then (if e.rel = rel then decide (n < cols.length) else false) else false) := by
    unfold colE; rw [hn]
    split
    · split
      · by_cases h : n < cols.length
        · rw [decide_eq_true h]; simp [h]
        · rw [decide_eq_false h]; simp [h]
      · rfl
    · rfl
  unfold Ex.cells exCells
  rw [hcol, hn]
  clear hcol hn
  generalize hk : e.kind = k
  generalize hr : e.rel = r
  generalize hl : e.kids.length = kl
  generalize e.const = cv
  clear hk hr hl
  have HB0 := Lib.hid ((BoxAt.new (w := w) (vs := [.int .i64 zr, .slice ZA cols.length zcap]) (t := 88) rfl rfl).ext ((Ext.refl (w.alloc (.cells [.int .i64 zr, .slice ZA cols.length zcap].toArray 88))).alloc (.cells [.int .i64 k, .int .i64 r, .int .i64 (n : Int), .int .i64 cv.kind, .int .i64 cv.int, .float .f64 cv.flt, .string cv.text, .slice EA kl ecap].toArray 27)))
  have HB1 := Lib.hid (BoxAt.new (w := (w.alloc (.cells [.int .i64 zr, .slice ZA cols.length zcap].toArray 88))) (g := w.heap.size + 1) (vs := [.int .i64 k, .int .i64 r, .int .i64 (n : Int), .int .i64 cv.kind, .int .i64 cv.int, .float .f64 cv.flt, .string cv.text, .slice EA kl ecap]) (t := 27) (by simp) rfl)
  have HE := Lib.hid (((Ext.refl w).alloc (.cells [.int .i64 zr, .slice ZA cols.length zcap].toArray 88)).alloc (.cells [.int .i64 k, .int .i64 r, .int .i64 (n : Int), .int .i64 cv.kind, .int .i64 cv.int, .float .f64 cv.flt, .string cv.text, .slice EA kl ecap].toArray 27))
  by_cases h1 : k = 1
  · have q1 : (k == 1) = true := by simp [h1]
    rw [if_pos h1]
    clear h1
    by_cases h2 : r = rel
    · have q2 : (r == rel) = true := by simp [h2]
      rw [if_pos h2]
      clear h2
      by_cases h3 : n < cols.length
      · have q3 : (n : Int) < (cols.length : Int) := by omega
        rw [decide_eq_true h3]
        go_enter Try.func106, Try.ntmps106
        go_wp2_with fail
        go_ret
        exact ⟨rfl, HE.out⟩
      · have q3 : ¬ (n : Int) < (cols.length : Int) := by omega
        rw [decide_eq_false h3]
        go_enter Try.func106, Try.ntmps106
        go_wp2_with fail
        go_ret
        exact ⟨rfl, HE.out⟩
    · have q2 : (r == rel) = false := by simpa using h2
      rw [if_neg h2]
      clear h2
      go_enter Try.func106, Try.ntmps106
      go_wp2_with fail
      go_ret
      exact ⟨rfl, HE.out⟩
  · have q1 : (k == 1) = false := by simpa using h1
    rw [if_neg h1]
    clear h1
    go_enter Try.func106, Try.ntmps106
    go_wp2_with fail
    go_ret
    exact ⟨rfl, HE.out⟩
theorem size_zoneR : (Try.prog.info? 88).map (·.size) = some 2 := by kernel_rfl
theorem agg_zoneR : aggOk Try.prog 88 2 = true := by kernel_rfl
theorem info_rngR : (Try.prog.info? 146).map (fun i => (i.zero.map (·.cells.size), i.size, i.bytes)) = some (some 10, 10, 96) := by kernel_rfl
theorem RngsIn.of_own9 {T : TypeId} {w : World} {base n : Nat} {v : Value} {l : List Rng} (h : w.ownsRow base T 10 v n (rgc l)) (hn : n = l.length) (ok : ∀ g ∈ l, g.Ok) (hl : l.length ≤ 1000000) : RngsIn w v l := by
  subst hn
  obtain ⟨A, c, rfl, h1, h2, h3, h4⟩ := owns_form h
  refine ⟨⟨A, c, rfl, fun hn => ?_⟩, ok, hl⟩
  cases A with
  | none => exact absurd (List.eq_nil_of_length_eq_zero (h3 rfl)) hn
  | some ad =>
    obtain ⟨h5, h6, h7, h8⟩ := h4 ad rfl
    obtain ⟨g, o, s⟩ := ad
    simp only at h5; subst h5
    exact ⟨g, o, rfl, At.of_get fun j u hu => h8 j u hu⟩
set_option maxRecDepth 100000 in
set_option maxHeartbeats 8000000 in
theorem told_of (zr : Int) (cols : List Rng) (zs : Value) (w : World) (hz : RngsIn w zs cols) :
    Calls Try.prog 103 #[.agg #[.int .i64 zr, zs]] w fun ev w' => ∃ A c, ev = .returned (.agg #[.int .i64 zr, .slice A cols.length c]) ∧ w'.ownsRow w.heap.size 146 10 (.slice A cols.length c) cols.length (rgc cols) ∧ Ext w w' := by
  obtain ⟨ZA, zcap, rfl, -⟩ := hz.val
  have HZ := Lib.hid hz
  have hl9 := hz.len
  clear hz
  have HA0 : Hid (BoxAt (((w.alloc (.cells #[.int .i64 zr, .slice ZA cols.length zcap] 84)).alloc (.cells #[.int .i64 0, .slice none 0 0] 88)).alloc (.cells #[.int .i64 0, .slice none 0 0] 88)) w.heap.size [.int .i64 zr, .slice ZA cols.length zcap]) := Lib.hid (((BoxAt.new (w := w) (vs := [.int .i64 zr, .slice ZA cols.length zcap]) (t := 84) rfl rfl).ext ((Ext.refl _).alloc _)).ext ((Ext.refl _).alloc _))
  have HA1 : Hid (BoxAt (((w.alloc (.cells #[.int .i64 zr, .slice ZA cols.length zcap] 84)).alloc (.cells #[.int .i64 0, .slice none 0 0] 88)).alloc (.cells #[.int .i64 0, .slice none 0 0] 88)) (w.heap.size + 1) [.int .i64 0, .slice none 0 0]) := Lib.hid ((BoxAt.new (w := (w.alloc (.cells #[.int .i64 zr, .slice ZA cols.length zcap] 84))) (vs := [.int .i64 0, .slice none 0 0]) (t := 88) (by simp) rfl).ext ((Ext.refl _).alloc _))
  have hx0 : (w.alloc (.cells #[.int .i64 zr, .slice ZA cols.length zcap] 84)).cell? ⟨w.heap.size, 0, none⟩ = some (.int .i64 zr) := (BoxAt.new (w := w) (vs := [.int .i64 zr, .slice ZA cols.length zcap]) (t := 84) rfl rfl).cells.1
  clear hx0
  go_enter Try.func103, Try.ntmps103
  go_upto_region 2 with (refine wpList_storeA (vs' := [.int .i64 zr, .slice none 0 0]) (Rng.one9 rfl) (BoxAt.new (w := ((w.alloc (.cells #[.int .i64 zr, .slice ZA cols.length zcap] 84)).alloc (.cells #[.int .i64 0, .slice none 0 0] 88))) (g := w.heap.size + 2) (vs := [.int .i64 0, .slice none 0 0]) (t := 88) (by simp) rfl) size_zoneR rfl rfl (.tmp 3) _ rfl rfl rfl ?_; intro w3 hq1 hq2; have HB2 := Lib.hid hq1; have HB0 := Lib.hid (But.box hq2 (by omega) HA0.out); have HB1 := Lib.hid (But.box hq2 (by omega) HA1.out); have HE := Lib.hid (But.to_ext ((((Ext.refl w).alloc (.cells #[.int .i64 zr, .slice ZA cols.length zcap] 84)).alloc (.cells #[.int .i64 0, .slice none 0 0] 88)).alloc (.cells #[.int .i64 0, .slice none 0 0] 88)) hq2 (by omega)); clear hq1 hq2)
  obtain ⟨x0, x1, -⟩ := HB0.out.cells
  simp only [Nat.zero_add] at x0 x1
  clear HA0 HA1
  go_wp2_with fail
  go_loopw [12] (fun y wr => ∃ (i : Nat) (A : Option Addr) (c : Nat), y = .int .i64 (i : Int) ∧ i ≤ cols.length ∧ BoxAt wr (w.heap.size + 1) [.int .i64 0, .slice none 0 0] ∧ BoxAt wr (w.heap.size + 2) [.int .i64 zr, .slice A i c] ∧ wr.ownsRow (w.heap.size + 3) 146 10 (.slice A i c) i (rgc (cols.take i)) ∧ Ext w wr) (fun y _ => cols.length - (intOf y).toNat)
  case atStart => exact ⟨0, none, 0, rfl, Nat.zero_le _, HB1.out, HB2.out, owns_nil _ _ _ _, HE.out⟩
  case round =>
    rename_i hrel
    obtain ⟨i, A, c, rfl, hi, hb1, hb2, ho, hE⟩ := hrel
    clear HB0 HB1 HB2 HE x0 x1
    have HB1 := Lib.hid hb1; have HB2 := Lib.hid hb2; have HO := Lib.hid ho; have HE := Lib.hid hE
    have hs3 : w.heap.size + 2 < wr.heap.size := hb2.lt
    clear hb1 hb2 ho hE
    by_cases hlt : i < cols.length
    · have hlt' : (i : Int) < (cols.length : Int) := by omega
      have hw : wrap64 ((i : Int) + 1) = (i : Int) + 1 := by unfold wrap64; omega
      obtain ⟨g, o, rfl, hat, hg⟩ := (HZ.out.ext HE.out).at_ i hlt
      have HAT := Lib.hid hat
      have HCOL : Hid (rgc (cols.take (i + 1)) = rgc (cols.take i) ++ cols[i].cells) := Lib.hid (by unfold rgc; rw [List.take_succ_eq_append_getElem hlt, List.flatMap_append, List.flatMap_cons, List.flatMap_nil, List.append_nil])
      clear hat
      unfold Rng.cells at HAT HCOL
      generalize cols[i] = gp at *
      go_upto_region 5 with (first
        | (refine wpList_ixS (.tmp 10) _ (i := i) rfl rfl Try.underlying82 size_rng rfl rfl hlt ?_)
        | (refine wpList_ldA (.tmp 14) (vs := [.int .i64 gp.kind, .int .i64 gp.nulls, .int .i64 gp.low.kind, .int .i64 gp.low.int, .float .f64 gp.low.flt, .string gp.low.text, .int .i64 gp.high.kind, .int .i64 gp.high.int, .float .f64 gp.high.flt, .string gp.high.text]) rfl rfl agg_rng rfl (HAT.out) ?_)
        | (refine wpList_storeA (vs' := [.int .i64 gp.kind, .int .i64 gp.nulls, .int .i64 gp.low.kind, .int .i64 gp.low.int, .float .f64 gp.low.flt, .string gp.low.text, .int .i64 gp.high.kind, .int .i64 gp.high.int, .float .f64 gp.high.flt, .string gp.high.text]) (Rng.one9 rfl) (BoxAt.new (w := wr) (g := wr.heap.size) (vs := [.int .i64 0, .int .i64 0, .int .i64 0, .int .i64 0, .float .f64 0, .string ⟨#[]⟩, .int .i64 0, .int .i64 0, .float .f64 0, .string ⟨#[]⟩]) (t := 149) rfl rfl) size_rng rfl rfl (.tmp 5) (.tmp 15) rfl rfl rfl ?_; intro w5 hq1 hq2; have HV5 := Lib.hid hq1; have HX5 : Hid (Ext wr w5) := Lib.hid (But.to_ext ((Ext.refl wr).alloc _) hq2 (Nat.le_refl _)); clear hq1 hq2))
      have HB15 := Lib.hid (HB1.out.ext HX5.out); have HB25 := Lib.hid (HB2.out.ext HX5.out); have HO5 := Lib.hid (owns_ext HO.out HX5.out); have HE5 := Lib.hid (HE.out.trans HX5.out)
      have HLT : Hid (∀ k, (Value.slice A i c).ownBlock = some k → k < w5.heap.size ∧ w.heap.size + 3 ≤ k) := Lib.hid fun k h => owns_lt HO5.out h
      have hs5 : w.heap.size + 3 ≤ w5.heap.size := HB25.out.lt
      obtain ⟨y0, y1, -⟩ := HB25.out.cells
      simp only [Nat.zero_add] at y0 y1
      clear HB1 HB2 HO HE HX5 HAT
      go_wp2_with (first
        | (refine wpList_ldA (.tmp 5) (vs := [.int .i64 gp.kind, .int .i64 gp.nulls, .int .i64 gp.low.kind, .int .i64 gp.low.int, .float .f64 gp.low.flt, .string gp.low.text, .int .i64 gp.high.kind, .int .i64 gp.high.int, .float .f64 gp.high.flt, .string gp.high.text]) rfl rfl agg_rng rfl (HV5.out.cells) ?_)
        | (refine wpList_one (base := w.heap.size + 3) (n := i) (.tmp 17) (.tmp 19) rfl rfl Try.underlying86 info_rngR (by decide) (by decide) rfl (owns_ext HO5.out ((Ext.refl _).alloc _)) [.int .i64 gp.kind, .int .i64 gp.nulls, .int .i64 gp.low.kind, .int .i64 gp.low.int, .float .f64 gp.low.flt, .string gp.low.text, .int .i64 gp.high.kind, .int .i64 gp.high.int, .float .f64 gp.high.flt, .string gp.high.text] rfl (Rng.one9 rfl) rfl (heap_alloc_new _ _) (by omega) (by simp; omega) ?_; intro g' cap' w6 ho6 hb6; have HO6 := Lib.hid ho6; have HZ6 := Lib.hid (hb6.box (fun h => by have := HLT.out _ h; omega) (HB25.out.ext ((Ext.refl _).alloc _))); have HZ7 := Lib.hid (hb6.box (fun h => by have := HLT.out _ h; omega) (HB15.out.ext ((Ext.refl _).alloc _))); have HE6 := Lib.hid (hb6.to_ext (HE5.out.alloc _) (fun k h => by have := HLT.out _ h; omega)); obtain ⟨c0, c1, -⟩ := HZ6.out.cells; simp only [Nat.zero_add] at c0 c1; have f1 := HZ6.out.free 1; clear ho6 hb6 y0 y1))
      have HB8 := Lib.hid (HZ6.out.setAt9 (i := 1) (.slice (some ⟨g', 0, none⟩) (i + 1) cap') (by simp))
      simp only [List.set_cons_zero, List.set_cons_succ] at HB8
      have HM8 : ButS (fun k => k = w.heap.size + 2) w6 (w6.setCell ⟨w.heap.size + 2, 1, none⟩ (.slice (some ⟨g', 0, none⟩) (i + 1) cap')) := ButS.set_ (p := ⟨w.heap.size + 2, 1, none⟩) (w := w6) (w' := w6) (M := fun k => k = w.heap.size + 2) (.inr rfl) _ (ButS.refl _ _)
      refine ⟨⟨i + 1, _, _, by simp, by omega, HM8.box (by omega) HZ7.out, HB8.out, ?_, HM8.to_ext HE6.out (fun k h => by omega)⟩, by simp [intOf] <;> omega⟩
      rw [HCOL.out]
      exact owns_buts HO6.out HM8 (fun g h => by have := owns_lt HO6.out h; omega)
    · have hlt' : ¬ ((i : Int) < (cols.length : Int)) := by omega
      obtain rfl : i = cols.length := by omega
      rw [List.take_length] at HO
      go_wp2_with (first
        | (refine wpList_ldA (.tmp 3) (vs := [.int .i64 zr, .slice A cols.length c]) rfl rfl agg_zoneR rfl (HB2.out.cells) ?_)
        | (refine wpList_storeA (vs' := [.int .i64 zr, .slice A cols.length c]) (Rng.one9 rfl) (HB1.out) size_zoneR rfl rfl (.tmp 2) _ rfl rfl rfl ?_; intro w9 hq1 hq2))
      exact back_cell rfl [.int .i64 zr, .slice A cols.length c] rfl agg_zoneR rfl hq1.cells ⟨A, c, rfl, owns_down (owns_buts HO.out (ButS.of_but (M := fun k => k = w.heap.size + 1) hq2 rfl) (fun g h => by have := owns_lt HO.out h; omega)) (by omega), But.to_ext HE.out hq2 (by omega)⟩
end Go.Proofs.Ytlcdjaclahhdnaa
