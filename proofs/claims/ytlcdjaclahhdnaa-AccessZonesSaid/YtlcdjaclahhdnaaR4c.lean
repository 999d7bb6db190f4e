/- The calls of tabularyref04.Plain, Cmp. -/
import Derived.Test.YtlcdjaclahhdnaaR4
import Derived.Deep.DeepCutAuto
namespace Go.Proofs.Ytlcdjaclahhdnaa
open Go.RowKit
set_option linter.unusedSimpArgs false
set_option linter.unusedVariables false

/-- tabularyref04.Plain: a NaN stays as it is. -/
def Val.plainR (v : Val) : Val := if v.right = true then (if v.kind = 3 ∧ isZ v.flt = true then Val.float 0 else v) else Val.null
theorem Val.plainR_flt {v : Val} (h : v.flt < 18446744073709551616) : v.plainR.flt < 18446744073709551616 := by
  unfold Val.plainR; split
  · split
    · decide
    · exact h
  · decide
set_option maxRecDepth 100000 in
set_option maxHeartbeats 1000000 in
theorem rplain_of (v : Val) (w : World) (hx : v.flt < 18446744073709551616) :
    Calls Try.prog 141 #[.agg #[.int .i64 v.kind, .int .i64 v.int, .float .f64 v.flt, .string v.text]] w fun e w' => e = .returned v.plainR.enc ∧ Ext w w' := by
  have HR := Lib.hid (fun w => rright_of v w hx)
  have hb0 : BoxAt ((w.alloc (.cells #[.int .i64 v.kind, .int .i64 v.int, .float .f64 v.flt, .string v.text] 24)).alloc (.cells nullCells.toArray 24)) w.heap.size [.int .i64 v.kind, .int .i64 v.int, .float .f64 v.flt, .string v.text] := (BoxAt.new rfl rfl).ext ((Ext.refl _).alloc _)
  have hb1 : BoxAt ((w.alloc (.cells #[.int .i64 v.kind, .int .i64 v.int, .float .f64 v.flt, .string v.text] 24)).alloc (.cells nullCells.toArray 24)) (w.heap.size + 1) nullCells := BoxAt.new (by simp) rfl
  have HB0 := Lib.hid hb0; have HB1 := Lib.hid hb1
  have HE := Lib.hid (((Ext.refl w).alloc (.cells #[.int .i64 v.kind, .int .i64 v.int, .float .f64 v.flt, .string v.text] 24)).alloc (.cells nullCells.toArray 24))
  clear hb0 hb1
  unfold nullCells at HB0 HB1 HE
  cases hr : v.right
  · have e1 : v.plainR = Val.null := by unfold Val.plainR; rw [hr]; rfl
    rw [e1]
    rw [hr] at HR
    clear e1 hr
    go_enter Try.func141, Try.ntmps141
    go_wp2_with (first
      | (refine wpList_wish rfl fun K hK => wp_loadA (vs := [.int .i64 v.kind, .int .i64 v.int, .float .f64 v.flt, .string v.text]) agg_val (.tmp 1) rfl rfl HB0.out.cells (hK _ _ ?_))
      | (go_at_call 130; refine (HR.out _).mono ?_; rintro e w1 ⟨rfl, hb⟩; have HB2 := Lib.hid (HB1.out.ext hb); have HE2 := Lib.hid (HE.out.trans hb); clear hb)
      | (refine wpList_storeA (val_one Val.null) HB2.out sizeVal rfl rfl (.tmp 2) _ rfl rfl rfl ?_; intro w3 hb1 hb2))
    exact back_cell rfl Val.null.cells rfl agg_val rfl hb1.cells ⟨rfl, But.to_ext HE2.out hb2 (by omega)⟩
  · rw [hr] at HR
    have ho := order_zero hx
    have hq : (FloatKind.f64.format.order v.flt 0 == some .eq) = isZ v.flt := ho
    clear ho
    by_cases hk : v.kind = 3
    · have hk' : (v.kind == 3) = true := by simpa using hk
      cases hz : isZ v.flt
      · have e1 : v.plainR = v := by unfold Val.plainR; rw [hr, hz]; simp
        rw [e1]
        rw [hz] at hq
        clear e1 hr hz hk
        go_enter Try.func141, Try.ntmps141
        go_wp2_with (first
          | (refine wpList_wish rfl fun K hK => wp_loadA (vs := [.int .i64 v.kind, .int .i64 v.int, .float .f64 v.flt, .string v.text]) agg_val (.tmp 1) rfl rfl HB0.out.cells (hK _ _ ?_))
          | (go_at_call 130; refine (HR.out _).mono ?_; rintro e w1 ⟨rfl, hb⟩; have HB2 := Lib.hid (HB1.out.ext hb); have HB3 := Lib.hid (HB0.out.ext hb); have HE2 := Lib.hid (HE.out.trans hb); clear hb; obtain ⟨x0, x1, x2, _⟩ := HB3.out.cells)
          | (refine wpList_wish rfl fun K hK => wp_loadA (vs := [.int .i64 v.kind, .int .i64 v.int, .float .f64 v.flt, .string v.text]) agg_val (.tmp 1) rfl rfl HB3.out.cells (hK _ _ ?_))
          | (refine wpList_storeA (val_one v) HB2.out sizeVal rfl rfl (.tmp 2) _ rfl rfl rfl ?_; intro w3 hb1 hb2))
        exact back_cell rfl v.cells rfl agg_val rfl hb1.cells ⟨rfl, But.to_ext HE2.out hb2 (by omega)⟩
      · have e1 : v.plainR = Val.float 0 := by unfold Val.plainR; rw [hr, hz, hk]; rfl
        rw [e1]
        rw [hz] at hq
        clear e1 hr hz hk
        go_enter Try.func141, Try.ntmps141
        go_wp2_with (first
          | (refine wpList_wish rfl fun K hK => wp_loadA (vs := [.int .i64 v.kind, .int .i64 v.int, .float .f64 v.flt, .string v.text]) agg_val (.tmp 1) rfl rfl HB0.out.cells (hK _ _ ?_))
          | (go_at_call 130; refine (HR.out _).mono ?_; rintro e w1 ⟨rfl, hb⟩; have HB2 := Lib.hid (HB1.out.ext hb); have HB3 := Lib.hid (HB0.out.ext hb); have HE2 := Lib.hid (HE.out.trans hb); clear hb; obtain ⟨x0, x1, x2, _⟩ := HB3.out.cells)
          | (refine wpList_storeA (val_one (Val.float 0)) HB2.out sizeVal rfl rfl (.tmp 2) _ rfl rfl rfl ?_; intro w3 hb1 hb2))
        exact back_cell rfl (Val.float 0).cells rfl agg_val rfl hb1.cells ⟨rfl, But.to_ext HE2.out hb2 (by omega)⟩
    · have hk' : (v.kind == 3) = false := by simpa using hk
      have e1 : v.plainR = v := by unfold Val.plainR; rw [hr, if_pos rfl, if_neg (fun h => hk h.1)]
      rw [e1]
      clear e1 hr hk hq
      go_enter Try.func141, Try.ntmps141
      go_wp2_with (first
        | (refine wpList_wish rfl fun K hK => wp_loadA (vs := [.int .i64 v.kind, .int .i64 v.int, .float .f64 v.flt, .string v.text]) agg_val (.tmp 1) rfl rfl HB0.out.cells (hK _ _ ?_))
        | (go_at_call 130; refine (HR.out _).mono ?_; rintro e w1 ⟨rfl, hb⟩; have HB2 := Lib.hid (HB1.out.ext hb); have HB3 := Lib.hid (HB0.out.ext hb); have HE2 := Lib.hid (HE.out.trans hb); clear hb; obtain ⟨x0, x1, x2, _⟩ := HB3.out.cells)
        | (refine wpList_wish rfl fun K hK => wp_loadA (vs := [.int .i64 v.kind, .int .i64 v.int, .float .f64 v.flt, .string v.text]) agg_val (.tmp 1) rfl rfl HB3.out.cells (hK _ _ ?_))
        | (refine wpList_storeA (val_one v) HB2.out sizeVal rfl rfl (.tmp 2) _ rfl rfl rfl ?_; intro w3 hb1 hb2))
      exact back_cell rfl v.cells rfl agg_val rfl hb1.cells ⟨rfl, But.to_ext HE2.out hb2 (by omega)⟩
/-- How two stand, told by the plain forms that keep NaN. -/
theorem plainR_plain (v : Val) : v.plain = if v.right = true ∧ v.kind = 3 then { v.plainR with flt := plainF v.plainR.flt } else v.plainR := by
  unfold Val.plain Val.plainR
  by_cases hr : v.right = true
  · rw [if_pos hr, if_pos hr]
    by_cases hk : v.kind = 3
    · rw [if_pos hk, if_pos ⟨hr, hk⟩]
      cases hz : isZ v.flt
      · rw [if_neg (by simp)]
      · rw [if_pos ⟨hk, rfl⟩]
        have hf := (Val.right_iff v).1 hr
        have e1 : plainF v.flt = 0 := by
          unfold plainF
          have hn : isNaN v.flt = false := by
            unfold isZ at hz; simp only [decide_eq_true_eq] at hz
            rcases hz with h | h <;> rw [h] <;> decide
          rw [hn, hz]; rfl
        have e2 : plainF 0 = 0 := by decide
        rw [e1]
        cases hf <;> simp_all [Val.float]
    · rw [if_neg hk, if_neg (fun h => hk h.2), if_neg (fun h => hk h.1)]
  · rw [if_neg hr, if_neg hr, if_neg (fun h => hr h.1)]
theorem isNaN_plainF (x : Nat) : isNaN (plainF x) = isNaN x := by
  unfold plainF
  cases h : isNaN x
  · rw [if_neg (by simp)]
    cases hz : isZ x
    · rw [if_neg (by simp)]; exact h
    · rw [if_pos rfl]; decide
  · rw [if_pos rfl]; decide
theorem fkey_plainF {x : Nat} (h : isNaN x = false) : fkey (plainF x) = fkey x := by
  unfold plainF
  rw [h, if_neg (by simp)]
  cases hz : isZ x
  · rw [if_neg (by simp)]
  · rw [if_pos rfl]
    unfold isZ at hz
    simp only [decide_eq_true_eq] at hz
    rcases hz with rfl | rfl <;> decide
theorem fcmp_plainF (x y : Nat) : fcmp (plainF x) (plainF y) = fcmp x y := by
  unfold fcmp
  rw [isNaN_plainF, isNaN_plainF]
  cases h : isNaN x
  · cases k : isNaN y
    · rw [fkey_plainF h, fkey_plainF k]
    · simp
  · simp
def rcmp (p q : Val) : Int := if p.kind = q.kind then (if p.kind = 3 then fcmp p.flt q.flt else if p.kind = 4 then scmp p.text q.text else icmp p.int q.int) else icmp p.kind q.kind
theorem plainR_kind (v : Val) : v.plain.kind = v.plainR.kind := by rw [plainR_plain]; split <;> rfl
theorem plainR_kind3 {v : Val} (h : v.plainR.kind = 3) : v.right = true ∧ v.kind = 3 := by
  unfold Val.plainR at h
  by_cases hr : v.right = true
  · rw [if_pos hr] at h
    split at h
    · rename_i hc; exact ⟨hr, hc.1⟩
    · exact ⟨hr, h⟩
  · rw [if_neg hr] at h; simp [Val.null] at h
theorem cmp_rcmp (a b : Val) : a.cmp b = rcmp a.plainR b.plainR := by
  unfold Val.cmp rcmp
  rw [plainR_kind, plainR_kind]
  by_cases hk : a.plainR.kind = b.plainR.kind
  · rw [if_pos hk, if_pos hk]
    by_cases h3 : a.plainR.kind = 3
    · rw [if_pos h3, if_pos h3]
      rw [plainR_plain a, plainR_plain b, if_pos (plainR_kind3 h3), if_pos (plainR_kind3 (hk ▸ h3))]
      exact fcmp_plainF _ _
    · rw [if_neg h3, if_neg h3]
      have na : a.plain = a.plainR := by
        rw [plainR_plain]; split
        · rename_i hc
          exact absurd (by rw [← plainR_kind]; unfold Val.plain; rw [if_pos hc.1, if_pos hc.2]; exact hc.2) h3
        · rfl
      have nb : b.plain = b.plainR := by
        rw [plainR_plain]; split
        · rename_i hc
          exact absurd (by rw [hk, ← plainR_kind]; unfold Val.plain; rw [if_pos hc.1, if_pos hc.2]; exact hc.2) h3
        · rfl
      rw [na, nb]
  · rw [if_neg hk, if_neg hk]
theorem scmp_two (s t : ByteArray) : scmp s t = if Op.bytesLess s.toList t.toList = true then -1 else if Op.bytesLess t.toList s.toList = true then 1 else 0 := by
  have h1 := scmp_lists s.toList t.toList
  have h2 := scmp_lists t.toList s.toList
  have h3 := lcmp_ord.anti s.toList t.toList
  unfold scmp
  split
  · rfl
  · rename_i hl
    rw [if_neg hl] at h1
    split
    · rename_i he
      rw [if_pos he] at h1
      rw [if_neg]
      intro hc
      rw [if_pos hc] at h2
      omega
    · rename_i he
      rw [if_neg he] at h1
      rw [if_pos]
      by_cases hc : Op.bytesLess t.toList s.toList = true
      · exact hc
      · rw [if_neg hc, if_neg (fun e => he e.symm)] at h2; omega

set_option maxRecDepth 100000 in
set_option maxHeartbeats 4000000 in
theorem rcmp_of (a b : Val) (w : World) (ha : a.flt < 18446744073709551616) (hb : b.flt < 18446744073709551616) :
    Calls Try.prog 98 #[.agg #[.int .i64 a.kind, .int .i64 a.int, .float .f64 a.flt, .string a.text], .agg #[.int .i64 b.kind, .int .i64 b.int, .float .f64 b.flt, .string b.text]] w
      fun e w' => e = .returned (.int .i64 (a.cmp b)) ∧ Ext w w' := by
  rw [cmp_rcmp]
  have hpf := Val.plainR_flt ha
  have hqf := Val.plainR_flt hb
  have HPA := Lib.hid (fun w => rplain_of a w ha)
  have HPB := Lib.hid (fun w => rplain_of b w hb)
  generalize a.plainR = p at *
  generalize b.plainR = q at *
  obtain ⟨z, hz⟩ : ∃ z, z = rcmp p q := ⟨_, rfl⟩
  rw [← hz]
  unfold rcmp at hz
  have HF := Lib.hid hz; clear hz
  have hb0 : BoxAt ((w.alloc (.cells #[.int .i64 a.kind, .int .i64 a.int, .float .f64 a.flt, .string a.text] 24)).alloc (.cells #[.int .i64 b.kind, .int .i64 b.int, .float .f64 b.flt, .string b.text] 24)) w.heap.size a.cells := (BoxAt.new rfl rfl).ext ((Ext.refl _).alloc _)
  have hb1 : BoxAt ((w.alloc (.cells #[.int .i64 a.kind, .int .i64 a.int, .float .f64 a.flt, .string a.text] 24)).alloc (.cells #[.int .i64 b.kind, .int .i64 b.int, .float .f64 b.flt, .string b.text] 24)) (w.heap.size + 1) b.cells := BoxAt.new (by simp) rfl
  have HB0 := Lib.hid hb0; have HB1 := Lib.hid hb1
  have HE := Lib.hid (((Ext.refl w).alloc (.cells #[.int .i64 a.kind, .int .i64 a.int, .float .f64 a.flt, .string a.text] 24)).alloc (.cells #[.int .i64 b.kind, .int .i64 b.int, .float .f64 b.flt, .string b.text] 24))
  clear hb0 hb1 ha hb
  unfold Val.enc at HPA HPB
  go_enter Try.func98, Try.ntmps98
  go_upto_region 2 with (first
    | (refine wpList_wish rfl fun K hK => wp_loadA (vs := [.int .i64 a.kind, .int .i64 a.int, .float .f64 a.flt, .string a.text]) agg_val (.tmp 2) rfl rfl HB0.out.cells (hK _ _ ?_))
    | (go_at_call 141; refine (HPA.out _).mono ?_; rintro e w1 ⟨rfl, hb⟩; have HB2 := Lib.hid (HB0.out.ext hb); have HB3 := Lib.hid (HB1.out.ext hb); have HE2 := Lib.hid (HE.out.trans hb); clear hb)
    | (refine wpList_storeA (val_one p) HB2.out sizeVal rfl rfl (.tmp 2) _ rfl rfl rfl ?_; intro w3 hb1 hb2; have HP := Lib.hid hb1; have HQ := Lib.hid (But.box hb2 (by omega) HB3.out); have HE3 := Lib.hid (But.to_ext HE2.out hb2 (by omega)); clear hb1 hb2))
  go_upto_region 3 with (first
    | (refine wpList_wish rfl fun K hK => wp_loadA (vs := [.int .i64 b.kind, .int .i64 b.int, .float .f64 b.flt, .string b.text]) agg_val (.tmp 3) rfl rfl HQ.out.cells (hK _ _ ?_))
    | (go_at_call 141; refine (HPB.out _).mono ?_; rintro e w4 ⟨rfl, hb⟩; have HP4 := Lib.hid (HP.out.ext hb); have HQ4 := Lib.hid (HQ.out.ext hb); have HE4 := Lib.hid (HE3.out.trans hb); clear hb)
    | (refine wpList_storeA (val_one q) HQ4.out sizeVal rfl rfl (.tmp 3) _ rfl rfl rfl ?_; intro w5 hb1 hb2; have HQ5 := Lib.hid hb1; have HP5 := Lib.hid (But.box hb2 (by omega) HP4.out); have HE5 := Lib.hid (But.to_ext HE4.out hb2 (by omega)); clear hb1 hb2))
  obtain ⟨p0, p1, p2, p3, _⟩ := HP5.out.cells
  obtain ⟨q0, q1, q2, q3, _⟩ := HQ5.out.cells
  simp only [Nat.zero_add, Nat.reduceAdd] at p0 p1 p2 p3 q0 q1 q2 q3
  clear HPA HPB HB0 HB1 HE HB2 HB3 HE2 HP HQ HE3 HP4 HQ4 HE4 HP5 HQ5
  by_cases hk : p.kind = q.kind
  · have hk' : (p.kind != q.kind) = false := by simp [hk]
    simp only [if_pos hk] at HF
    by_cases h3 : p.kind = 3
    · have h3' : (p.kind == 3) = true := by simpa using h3
      have h4' : (p.kind == 4) = false := by simp [h3]
      simp only [if_pos h3] at HF
      have np := isNaN_order hpf
      have nq := isNaN_order hqf
      unfold fcmp at HF
      cases hnp : isNaN p.flt
      · rw [hnp] at np HF
        cases hnq : isNaN q.flt
        · rw [hnq] at nq HF
          obtain ⟨o1, o2⟩ := order_lt hpf hqf hnp hnq
          simp only [Bool.false_eq_true, if_false] at HF
          clear hk h3 hnp hnq
          rcases Int.lt_trichotomy (fkey p.flt) (fkey q.flt) with h | h | h
          · rw [decide_eq_true h] at o1
            rw [decide_eq_false (by omega)] at o2
            have HG : Hid (z = -1) := Lib.hid (by rw [HF.out]; unfold icmp; rw [if_pos h])
            clear HF h
            go_wp2_with fail
            go_ret
            exact ⟨ret_int HG.out.symm, HE5.out⟩
          · rw [decide_eq_false (by omega)] at o1
            rw [decide_eq_false (by omega)] at o2
            have HG : Hid (z = 0) := Lib.hid (by rw [HF.out]; unfold icmp; rw [if_neg (by omega), if_neg (by omega)])
            clear HF h
            go_wp2_with fail
            go_ret
            exact ⟨ret_int HG.out.symm, HE5.out⟩
          · rw [decide_eq_false (by omega)] at o1
            rw [decide_eq_true h] at o2
            have HG : Hid (z = 1) := Lib.hid (by rw [HF.out]; unfold icmp; rw [if_neg (by omega), if_pos h])
            clear HF h
            go_wp2_with fail
            go_ret
            exact ⟨ret_int HG.out.symm, HE5.out⟩
        · rw [hnq] at nq HF
          have o0 := order_nan (x := p.flt) (y := q.flt) (.inr hnq)
          have HG : Hid (z = -1) := Lib.hid (by rw [HF.out]; rfl)
          clear hk h3 hnp hnq HF
          go_wp2_with fail
          go_ret
          exact ⟨ret_int HG.out.symm, HE5.out⟩
      · rw [hnp] at np HF
        have o0 := order_nan (x := p.flt) (y := q.flt) (.inl hnp)
        cases hnq : isNaN q.flt
        · rw [hnq] at nq HF
          have HG : Hid (z = 1) := Lib.hid (by rw [HF.out]; rfl)
          clear hk h3 hnp hnq HF
          go_wp2_with fail
          go_ret
          exact ⟨ret_int HG.out.symm, HE5.out⟩
        · rw [hnq] at nq HF
          have HG : Hid (z = 0) := Lib.hid (by rw [HF.out]; rfl)
          clear hk h3 hnp hnq HF
          go_wp2_with fail
          go_ret
          exact ⟨ret_int HG.out.symm, HE5.out⟩
    · have h3' : (p.kind == 3) = false := by simpa using h3
      simp only [if_neg h3] at HF
      by_cases h4 : p.kind = 4
      · have h4' : (p.kind == 4) = true := by simpa using h4
        simp only [if_pos h4] at HF
        unfold scmp at HF
        clear hk h3 h4
        by_cases o1 : Op.bytesLess p.text.toList q.text.toList = true
        · have HG : Hid (z = -1) := Lib.hid (by rw [HF.out, if_pos o1])
          clear HF
          go_wp2_with fail
          all_goals
            go_ret
            exact ⟨ret_int HG.out.symm, HE5.out⟩
        · have o1' : Op.bytesLess p.text.toList q.text.toList = false := by simpa using o1
          by_cases o2 : p.text.toList = q.text.toList
          · have o2' : (p.text.toList == q.text.toList) = true := by simpa using o2
            have HG : Hid (z = 0) := Lib.hid (by rw [HF.out, if_neg o1, if_pos o2])
            clear HF o1 o2
            go_wp2_with fail
            go_ret
            exact ⟨ret_int HG.out.symm, HE5.out⟩
          · have o2' : (p.text.toList == q.text.toList) = false := by simpa using o2
            have HG : Hid (z = 1) := Lib.hid (by rw [HF.out, if_neg o1, if_neg o2])
            clear HF o1 o2
            go_wp2_with fail
            go_ret
            exact ⟨ret_int HG.out.symm, HE5.out⟩
      · have h4' : (p.kind == 4) = false := by simpa using h4
        simp only [if_neg h4] at HF
        clear hk h3 h4
        rcases Int.lt_trichotomy p.int q.int with h | h | h
        · have h' : ¬ q.int < p.int := by omega
          have HG : Hid (z = -1) := Lib.hid (by rw [HF.out]; unfold icmp; rw [if_pos h])
          clear HF
          go_wp2_with fail
          go_ret
          exact ⟨ret_int HG.out.symm, HE5.out⟩
        · have h1 : ¬ p.int < q.int := by omega
          have h2 : ¬ q.int < p.int := by omega
          have HG : Hid (z = 0) := Lib.hid (by rw [HF.out]; unfold icmp; rw [if_neg h1, if_neg h2])
          clear HF h
          go_wp2_with fail
          go_ret
          exact ⟨ret_int HG.out.symm, HE5.out⟩
        · have h1 : ¬ p.int < q.int := by omega
          have HG : Hid (z = 1) := Lib.hid (by rw [HF.out]; unfold icmp; rw [if_neg h1, if_pos h])
          clear HF
          go_wp2_with fail
          go_ret
          exact ⟨ret_int HG.out.symm, HE5.out⟩
  · have hk' : (p.kind != q.kind) = true := by simpa using hk
    simp only [if_neg hk] at HF
    by_cases h : p.kind < q.kind
    · have HG : Hid (z = -1) := Lib.hid (by rw [HF.out]; unfold icmp; rw [if_pos h])
      clear HF hk
      go_wp2_with fail
      go_ret
      exact ⟨ret_int HG.out.symm, HE5.out⟩
    · have HG : Hid (z = 1) := Lib.hid (by rw [HF.out]; unfold icmp; rw [if_neg h, if_pos (by omega)])
      clear HF hk
      go_wp2_with fail
      go_ret
      exact ⟨ret_int HG.out.symm, HE5.out⟩
end Go.Proofs.Ytlcdjaclahhdnaa
