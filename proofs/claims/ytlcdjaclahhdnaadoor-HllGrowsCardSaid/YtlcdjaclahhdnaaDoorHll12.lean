/- Rows of values of the call's own; the call of HllSets: the first half. -/
import Derived.Test.YtlcdjaclahhdnaaDoorHll11
namespace Go.Proofs.YtlcdjaclahhdnaaDoor
open Go.RowKit
set_option linter.unusedSimpArgs false
set_option linter.unusedVariables false

def OwnV (w : World) (base : Nat) (v : Value) (l : List Val) : Prop := w.ownsRow base 27 4 v l.length (vc l)
theorem OwnV.nil (w : World) (base : Nat) : OwnV w base (.slice none 0 0) [] := ⟨by simp [vc], .inl ⟨rfl, rfl⟩⟩
theorem OwnV.ext {w w' : World} {base : Nat} {v : Value} {l : List Val} (he : Ext w w') (h : OwnV w base v l) : OwnV w' base v l := owns_ext h he
theorem info_val : (Tryd.prog.info? 27).map (fun i => (i.zero, i.size, i.bytes)) = some (some (.agg #[.int .i64 0, .int .i64 0, .float .f64 0, .string ⟨#[]⟩]), 4, 40) := by kernel_rfl
theorem OwnV.vals {w : World} {base : Nat} {v : Value} {l : List Val} (h : OwnV w base v l) (ok : ∀ u ∈ l, u.Ok) : ValsIn w v l := by
  rcases h.2 with ⟨rfl, h0⟩ | ⟨g, cap, cur, rfl, hb, hh, hn, _⟩
  · obtain rfl := List.eq_nil_of_length_eq_zero h0
    exact ⟨⟨none, 0, rfl, Nat.le_refl _, fun _ => rfl, fun h => absurd rfl h⟩, ok⟩
  · refine ⟨⟨some ⟨g, 0, none⟩, cap, rfl, hn, (fun h => by cases h), fun _ => ⟨g, 0, rfl, At.of_get fun j u hu => ?_⟩⟩, ok⟩
    have := World.ownsRow.cells h (g := g) rfl j u hu
    rwa [add_at] at this
theorem OwnV.empty {w : World} {base : Nat} (hb : base ≤ w.heap.size) : OwnV (w.alloc (.cells #[] 27)) base (.slice (some ⟨w.heap.size, 0, none⟩) 0 0) [] :=
  ⟨rfl, .inr ⟨w.heap.size, 0, #[], rfl, hb, heap_alloc_new w _, Nat.le_refl _, by decide, rfl, rfl⟩⟩
section
variable {w : World} {ops : Array Oper} {rest : List Oper} {o : Oper} {a : Act} {Q : Exit → Act → World → Prop}
/-- 'append(l, v)', v a value. -/
theorem wpList_addV (hgd : o.guard = none) (s x : Operand)
    (ho : o.op = .call { callee := .builtin .append, args := #[s, x], argTypes := #[22, 22] })
    {base : Nat} {v : Value} {l : List Val} (hs : a.eval s = v) (hown : OwnV w base v l) (u : Val) {g : Nat} (hx : a.eval x = .slice (some ⟨g, 0, none⟩) 1 1) (hg : g = w.heap.size)
    (hl : l.length ≤ 1000000) (hbase : base ≤ w.heap.size)
    (h : ∀ v' w', OwnV w' base v' (l ++ [u]) → Wr 27 base w w' → wpList Tryd.prog ops Q rest (a.put o.dst v') w') :
    wpList Tryd.prog ops Q (o :: rest) a (w.alloc (.cells #[.int .i64 u.kind, .int .i64 u.int, .float .f64 u.flt, .string u.text] 27)) := by
  subst hg
  refine wpList_add hgd s x 22 ho Tryd.underlying22 info_val rfl (by omega) hs (hown.ext ((Ext.refl _).alloc _)) w.heap.size 0 1 1 (vc [u]) hx rfl ?_ (vc_one _) (by omega) (by omega) (by simp; omega) fun v' w' ho' hw' => ?_
  · simp [At, vc, Val.cells, go_sem]
  · refine h v' w' ?_ (Wr.trans (Wr.of_ext ((Ext.refl w).alloc _)) hw')
    unfold OwnV
    rw [vc_append, List.length_append]
    exact ho'
/-- 'append(l, m...)'. -/
theorem wpList_addVs (hgd : o.guard = none) (s x : Operand)
    (ho : o.op = .call { callee := .builtin .append, args := #[s, x], argTypes := #[22, 22] })
    {base : Nat} {v xv : Value} {l m : List Val} (hs : a.eval s = v) (hown : OwnV w base v l) (hx : a.eval x = xv) (hm : ValsIn w xv m) (hl : l.length ≤ 1000000) (hml : m.length ≤ 1000000) (hbase : base ≤ w.heap.size)
    (h : ∀ v' w', OwnV w' base v' (l ++ m) → Wr 27 base w w' → wpList Tryd.prog ops Q rest (a.put o.dst v') w') : wpList Tryd.prog ops Q (o :: rest) a w := by
  obtain ⟨i, hi1, hi2⟩ := Option.map_eq_some_iff.1 info_val
  simp only [Prod.mk.injEq] at hi2
  obtain ⟨⟨A, c, rfl, hc, hA, hcell⟩, ok⟩ := hm
  cases A with
  | none =>
    obtain rfl := hA rfl
    obtain rfl : m = [] := List.eq_nil_of_length_eq_zero (by omega)
    refine wpList_plain hgd fun K hK => ?_
    have hr := run_append_owned_none (P := Tryd.prog) w base 22 o.type 27 i 4 Tryd.underlying22 hi1 v l.length (vc l) hown
    unfold Oper.wp execOp
    simp only [ho, resolve, invoke, builtin, Sem.run_bind, Sem.run_pure, Result.andThen_ok, List.map_toArray, List.map_cons, List.map_nil, hs, hx, List.length_nil, hr]
    exact hK _ _ (h v w (by simpa using hown) (Wr.refl _ _ _))
  | some ad =>
    refine wpList_append_own w hgd s x 22 ho base 27 i _ 4 40 Tryd.underlying22 hi1 hi2.1 hi2.2.1 hi2.2.2 rfl (by omega) v l.length (vc l) hs hown ad m.length c (vc m) hx (vc_length m) (fun j u hu => ?_) (vc_one _) (by unfold maxLen; omega) (by omega) hbase fun v' w' ho' hg' _ => h v' w' ?_ (Wr.grown hown hg')
    · have hne : m ≠ [] := fun e => by subst e; simp [vc] at hu
      obtain ⟨g, o, e, h6⟩ := hcell hne
      simp only [Option.some.injEq] at e
      subst e
      rw [add_at]; exact h6.get j u hu
    · unfold OwnV
      rw [vc_append, List.length_append]
      exact ho'
end
section
variable {C : World → Prop} {ops : Array Oper} {rest : List Oper} {o : Oper} {a : Act} {Q : Act → Prop} {g : Nat} {l m : List Nat}
theorem quiet_load32 (hw : Region.wanted o (yielded ops a.tmps) = true) (x : Operand) (ho : o.op = .load 32 x) (hx : a.eval x = .pointer (some ⟨g, 0, none⟩)) (hr : ∀ w, C w → RowB w g l)
    (h : wpQuiet Tryd.prog ops C Q rest (a.put o.dst (.agg (bv l).toArray))) : wpQuiet Tryd.prog ops C Q (o :: rest) a :=
  quiet_run hw _ (fun w hC => by
    have hl := run_loadVar_mid (P := Tryd.prog) w g 0 32 (bv l) _ (hr w hC).cells Tryd.underlying32 rfl (by rw [size32, bv_length, (hr w hC).len])
    unfold execOp
    simp only [ho, hx, Instr.loadAt, Instr.sureAddr, Sem.run_bind, Sem.run_pure, Result.andThen_ok, hl]) h
theorem quiet_eq32 (hw : Region.wanted o (yielded ops a.tmps) = true) (x y : Operand) (t : TypeId) (ho : o.op = .binOp .eql 32 x y t) (hx : a.eval x = .agg (bv l).toArray) (hy : a.eval y = .agg (bv m).toArray)
    (hl : l.length = 64) (hm : m.length = 64) (hlb : ∀ x ∈ l, x < 256) (hmb : ∀ x ∈ m, x < 256) {b : Bool} (hb : decide (l = m) = b)
    (h : wpQuiet Tryd.prog ops C Q rest (a.put o.dst (.bool b))) : wpQuiet Tryd.prog ops C Q (o :: rest) a :=
  quiet_run hw _ (fun w hC => by
    unfold execOp
    simp only [ho, hx, hy, Sem.run_bind, Sem.run_pure, Result.andThen_ok, run_eqGuard_agg w _ _ _ _ _ _ guard32, eql32 hl hm hlb hmb, hb]) h
theorem quiet_neq32 (hw : Region.wanted o (yielded ops a.tmps) = true) (x y : Operand) (t : TypeId) (ho : o.op = .binOp .neq 32 x y t) (hx : a.eval x = .agg (bv l).toArray) (hy : a.eval y = .agg (bv m).toArray)
    (hl : l.length = 64) (hm : m.length = 64) (hlb : ∀ x ∈ l, x < 256) (hmb : ∀ x ∈ m, x < 256) {b : Bool} (hb : (!decide (l = m)) = b)
    (h : wpQuiet Tryd.prog ops C Q rest (a.put o.dst (.bool b))) : wpQuiet Tryd.prog ops C Q (o :: rest) a :=
  quiet_run hw _ (fun w hC => by
    unfold execOp
    simp only [ho, hx, hy, Sem.run_bind, Sem.run_pure, Result.andThen_ok, run_eqGuard_agg w _ _ _ _ _ _ guard32, neq32 hl hm hlb hmb, hb]) h
end
theorem mergeR_byte {a b : List Nat} (ha : ∀ x ∈ a, x < 256) (hb : ∀ x ∈ b, x < 256) : ∀ x ∈ mergeR a b, x < 256 := by
  unfold mergeR
  induction a generalizing b with
  | nil => simp
  | cons u a ih =>
    cases b with
    | nil => simp
    | cons v b =>
      intro x hx
      rw [List.zipWith_cons_cons, List.mem_cons] at hx
      rcases hx with rfl | hx
      · have h1 := ha u (by simp)
        have h2 := hb v (by simp)
        omega
      · exact ih (fun x h => ha x (by simp [h])) (fun x h => hb x (by simp [h])) x hx
/-- A slice that holds numbers. -/
structure IntsIn (w : World) (x : Value) (n : Nat) : Prop where
  val : ∃ A c, x = .slice A n c ∧ n ≤ c ∧ (0 < n → ∃ g o, A = some ⟨g, o, none⟩ ∧ g < w.heap.size ∧ ∀ i, i < n → ∃ z : Int, w.cell? ⟨g, o + i, none⟩ = some (.int .i64 z))
theorem IntsIn.ext {w w' : World} {x : Value} {n : Nat} (he : Ext w w') (h : IntsIn w x n) : IntsIn w' x n := by
  obtain ⟨A, c, h1, h2, h3⟩ := h
  refine ⟨A, c, h1, h2, fun hn => ?_⟩
  obtain ⟨g, o, h4, h5, h6⟩ := h3 hn
  exact ⟨g, o, h4, (he.at_ g h5).2.2, fun i hi => (h6 i hi).imp fun z hz => ((he.at_ g h5).1 _).trans hz⟩
theorem size_int : (Tryd.prog.info? 3).map (·.size) = some 1 := by kernel_rfl

set_option maxRecDepth 100000 in
set_option maxHeartbeats 2000000 in
theorem sets_walk (xa xb xz : Value) (la lb : List Val) (n : Nat) (w : World) (ha : ValsIn w xa la) (hb : ValsIn w xb lb) (hz : IntsIn w xz n)
    (hfew : w.cell? ⟨0, 63, none⟩ = some (.int .u16 1)) (hgl : 0 < w.heap.size) :
    Calls Tryd.prog 3 #[xa, xb, xz] w fun e w' => e = .returned (.bool true) ∧ Ext w w' := by
  obtain ⟨A, ca, rfl, hca⟩ := ha.val
  obtain ⟨B, cb, rfl, hcb⟩ := hb.val
  obtain ⟨Z, cz, rfl, hcz⟩ := hz.val
  have hwk := Lib.hid (works17_of w hfew hgl)
  have HA := Lib.hid ha; have HB := Lib.hid hb; have HZ := Lib.hid hz
  clear ha hb hz hca hcb hcz hfew
  by_cases h1 : (300 : Int) < (la.length : Int)
  · go_enter Tryd.func3, Tryd.ntmps3
    go_wp2_with (go_at_call 5; refine (hwk.out).mono ?_; rintro e w' ⟨rfl, hb⟩)
    go_ret
    exact ⟨rfl, by assumption⟩
  by_cases h2 : (300 : Int) < (lb.length : Int)
  · go_enter Tryd.func3, Tryd.ntmps3
    go_wp2_with (go_at_call 5; refine (hwk.out).mono ?_; rintro e w' ⟨rfl, hb⟩)
    go_ret
    exact ⟨rfl, by assumption⟩
  by_cases h3 : (300 : Int) < (n : Int)
  · go_enter Tryd.func3, Tryd.ntmps3
    go_wp2_with (go_at_call 5; refine (hwk.out).mono ?_; rintro e w' ⟨rfl, hb⟩)
    go_ret
    exact ⟨rfl, by assumption⟩
  have ha3 : la.length ≤ 300 := by omega
  have hb3 : lb.length ≤ 300 := by omega
  have hn3 : n ≤ 300 := by omega
  go_enter Tryd.func3, Tryd.ntmps3
  go_wp2_with (go_at_call 5; refine (hwk.out).mono ?_; rintro e w1 ⟨rfl, hb1⟩; have HE1 := Lib.hid hb1; clear hb1)
  go_loopw [7, 31] (fun x y wr => ∃ (i : Nat) (lv : List Val), y = .int .i64 (i : Int) ∧ i ≤ n ∧ lv.length ≤ i ∧ (∀ v ∈ lv, v ∈ la) ∧ OwnV wr w1.heap.size x lv ∧ Wr 27 w1.heap.size w1 wr) (fun _ y _ => n - (intOf y).toNat)
  case atStart => exact ⟨0, [], rfl, by omega, by simp, (fun v h => by simp at h), OwnV.nil _ _, Wr.refl _ _ _⟩
  case round =>
    rename_i hrel
    obtain ⟨i, lv, rfl, hi, hlv, hmem, hown, hwr⟩ := hrel
    have hE1 : Ext w1 wr := hwr.to_ext (Nat.le_refl _)
    have hE := HE1.out.trans hE1
    have hsz := hE1.size
    have HOWN := Lib.hid hown; have HMEM := Lib.hid hmem; have HWR := Lib.hid hwr
    clear hown hmem hwr
    by_cases hlt : i < n
    · have hlt' : (i : Int) < (n : Int) := by omega
      have hw : wrap64 ((i : Int) + 1) = (i : Int) + 1 := by unfold wrap64; omega
      obtain ⟨Z', cz', e1, _, hz3⟩ := (HZ.out.ext hE).val
      obtain ⟨gz, oz, rfl, hgz, hz4⟩ := hz3 (by omega)
      simp only [Value.slice.injEq] at e1
      obtain ⟨rfl, _, _⟩ := e1
      obtain ⟨z, hzc⟩ := hz4 i hlt
      clear hz3 hz4
      by_cases ha0 : la.length = 0
      · have ha0' : ¬ (0 : Int) < (la.length : Int) := by omega
        go_wp2_with (first
          | (refine wpList_wish rfl fun K hK => wp_idxS (i := i) Tryd.underlying23 size_int _ _ rfl rfl rfl hlt (hK _ _ ?_); rw [Nat.mul_one]))
        refine ⟨⟨_, _, _, ⟨i + 1, by simp, by omega, lv, by omega, HMEM.out, HOWN.out, HWR.out⟩, rfl, rfl, rfl⟩, by simp [intOf]; omega⟩
      · have ha0' : (0 : Int) < (la.length : Int) := by omega
        obtain ⟨q, hq, hql⟩ : ∃ q : Nat, wrap64 ((IntKind.u64.wrap z).tmod (la.length : Int)) = (q : Int) ∧ q < la.length := by
          have h0 : 0 ≤ IntKind.u64.wrap z := by rw [u64_wrap]; omega
          rw [Int.tmod_eq_emod_of_nonneg h0]
          have m1 := Int.emod_nonneg (IntKind.u64.wrap z) (show (la.length : Int) ≠ 0 by omega)
          have m2 := Int.emod_lt_of_pos (IntKind.u64.wrap z) ha0'
          refine ⟨(IntKind.u64.wrap z % (la.length : Int)).toNat, ?_, by omega⟩
          unfold wrap64; omega
        obtain ⟨g, o, rfl, _, hcell, hok, hg⟩ := (HA.out.ext hE).at_ q hql
        have HC := Lib.hid hcell
        have HM := Lib.hid (List.getElem_mem hql)
        clear hcell hok
        generalize la[q] = v at *
        go_wp2_with (first
          | (refine wpList_wish rfl fun K hK => wp_idxS (i := i) Tryd.underlying23 size_int _ _ rfl rfl rfl hlt (hK _ _ ?_); rw [Nat.mul_one])
          | (refine wpList_wish rfl fun K hK => wp_idxS (i := q) Tryd.underlying22 sizeVal (.tmp 39) _ rfl rfl rfl hql (hK _ _ ?_))
          | (refine wpList_wish rfl fun K hK => wp_loadA (vs := [.int .i64 v.kind, .int .i64 v.int, .float .f64 v.flt, .string v.text]) agg_val (.tmp 47) rfl rfl HC.out (hK _ _ ?_))
          | (at_builtin; refine wpList_addV rfl (.tmp 38) (.tmp 49) rfl rfl HOWN.out v rfl rfl (by omega) hsz ?_; intro v' w' ho' hw'))
        refine ⟨⟨_, _, _, ⟨i + 1, by simp, by omega, lv ++ [v], by simp; omega, (fun u hu => ?_), ho', HWR.out.trans hw'⟩, rfl, rfl, rfl⟩, by simp [intOf]; omega⟩
        rcases List.mem_append.1 hu with hu | hu
        · exact HMEM.out u hu
        · rw [List.mem_singleton.1 hu]; exact HM.out
    · have hlt' : ¬ ((i : Int) < (n : Int)) := by omega
      have hwl : wrap64 ((la.length : Int) - 1) = (la.length : Int) - 1 := by unfold wrap64; omega
      obtain ⟨lp, hlp⟩ : ∃ lp, lp = (la.map Val.plain).reverse := ⟨_, rfl⟩
      have hlpl : lp.length = la.length := by rw [hlp]; simp
      have HLP := Lib.hid hlp; clear hlp
      go_wp2_with fail
      go_loopw [7, 10] (fun x y wr => ∃ k : Nat, y = .int .i64 ((la.length : Int) - 1 - (k : Int)) ∧ k ≤ la.length ∧ OwnV wr w1.heap.size x (lv ++ lp.take k) ∧ Wr 27 w1.heap.size w1 wr) (fun _ y _ => (intOf y + 1).toNat)
      case atStart => exact ⟨0, by simp, by omega, by simpa using HOWN.out, HWR.out⟩
      case round =>
        rename_i hrel
        obtain ⟨k, rfl, hk, hown, hwr⟩ := hrel
        have hE1 : Ext w1 wr := hwr.to_ext (Nat.le_refl _)
        have hE := HE1.out.trans hE1
        have hsz := hE1.size
        have HOWN := Lib.hid hown; have HWR := Lib.hid hwr
        clear hown hwr
        by_cases hkl : k < la.length
        · obtain ⟨q, hq⟩ : ∃ q : Nat, q + k + 1 = la.length := ⟨la.length - 1 - k, by omega⟩
          have hqi : (la.length : Int) - 1 - (k : Int) = (q : Int) := by omega
          have hql : q < la.length := by omega
          have hw : wrap64 ((q : Int) - 1) = (q : Int) - 1 := by unfold wrap64; omega
          rw [hqi]
          obtain ⟨g, o, rfl, _, hcell, hok, hg⟩ := (HA.out.ext hE).at_ q hql
          have HC := Lib.hid hcell
          have hget : lp.take (k + 1) = lp.take k ++ [la[q].plain] := by
            rw [List.take_succ_eq_append_getElem (by omega)]
            congr 2
            have e := HLP.out
            simp only [e, List.getElem_reverse, List.getElem_map, List.length_map]
            congr 1; congr 1; omega
          have HG := Lib.hid hget
          have HOK := Lib.hid hok
          have hll : (lv ++ lp.take k).length ≤ 1000000 := by rw [List.length_append, List.length_take]; omega
          clear hcell hok hget
          generalize la[q] = v at *
          have hpl := Lib.hid (fun w => plain_of v w HOK.out.flt)
          go_wp2_with (first
            | (refine wpList_wish rfl fun K hK => wp_idxS (i := q) Tryd.underlying22 sizeVal (.tmp 60) _ rfl rfl rfl hql (hK _ _ ?_))
            | (refine wpList_wish rfl fun K hK => wp_loadA (vs := [.int .i64 v.kind, .int .i64 v.int, .float .f64 v.flt, .string v.text]) agg_val (.tmp 62) rfl rfl HC.out (hK _ _ ?_))
            | (go_at_call 6; refine (hpl.out _).mono ?_; rintro e w2 ⟨rfl, hb⟩; have HO2 := Lib.hid (OwnV.ext hb HOWN.out); have hsz2 : w1.heap.size ≤ w2.heap.size := Nat.le_trans hsz hb.size)
            | (at_builtin; refine wpList_addV rfl (.tmp 59) (.tmp 65) rfl rfl HO2.out v.plain rfl rfl hll hsz2 ?_; intro v' w' ho' hw'))
          refine ⟨⟨k + 1, congrArg (Value.int .i64) (by omega), by omega, by rw [HG.out, ← List.append_assoc]; exact ho', HWR.out.trans ((Wr.of_ext hb).trans hw')⟩, by simp [intOf] <;> omega⟩
        · obtain rfl : k = la.length := by omega
          have hqi : ((la.length : Int) - 1 - (la.length : Int)) = -1 := by omega
          rw [hqi]
          have hoa := Lib.hid (fun w (h : ValsIn w (.slice A la.length ca) la) => of_of _ la w h (by omega))
          have hob := Lib.hid (fun w (h : ValsIn w (.slice B lb.length cb) lb) => of_of _ lb w h (by omega))
          have hX := sketchOf_len la
          have hY := sketchOf_len lb
          go_wp2_with (first
            | (go_at_call_of 7 (Value.slice A la.length ca); refine (hoa.out _ (HA.out.ext hE)).mono ?_; rintro e w2 ⟨rfl, hb2⟩; have hE2 := hE.trans hb2)
            | (go_at_call_of 7 (Value.slice B lb.length cb); refine (hob.out _ (HB.out.ext hE2)).mono ?_; rintro e w3 ⟨rfl, hb3⟩; have hE3 := hE2.trans hb3; have hEr := hb2.trans hb3)
            | (refine wpList_store32 (l' := sketchOf la) rfl (.tmp 11) _ rfl rfl rfl hX (RowB.alloc _ (RowB.new (l := List.replicate 64 0) rfl _ _ rfl (by decide))) ?_; intro w4 hr4 hb4; have hz4 := Lib.hid (RowB.but (g := w3.heap.size + 1) hb4 (by omega) (RowB.new (l := List.replicate 64 0) (by simp) _ _ rfl (by decide))))
            | (refine wpList_store32 (l' := sketchOf lb) rfl (.tmp 12) _ rfl rfl rfl hY hz4.out ?_; intro w5 hr5 hb5; have HRX := Lib.hid (RowB.but hb5 (by omega) hr4); have HRY := Lib.hid hr5; have hE5 : Ext w3 w5 := But.to_ext (But.to_ext (((Ext.refl _).alloc _).alloc _) hb4 (Nat.le_refl _)) hb5 (by omega); have HOWN5 := Lib.hid ((HOWN.out.ext hEr).ext hE5); have hE05 := hE3.trans hE5; clear hr4 hr5)
            | (at_builtin; refine wpList_addVs rfl (.tmp 71) (.tmp 72) rfl rfl (OwnV.empty (Nat.le_refl _)) rfl (HA.out.ext (hE05.alloc _)) ?_ ?_ ?_ ?_; (focus (simp; done)); (focus omega); (focus (simp; done)); intro v6 w6 ho6 hw6; rw [List.nil_append] at ho6; have hW6 := Wr.trans (Wr.of_ext (base := w5.heap.size) (T := 27) ((Ext.refl w5).alloc _)) hw6; have hE6 := hW6.to_ext (Nat.le_refl _))
            | (at_builtin; refine wpList_addVs rfl (.tmp 73) (.tmp 74) rfl rfl ho6 rfl (HB.out.ext (hE05.trans hE6)) ?_ ?_ ?_ ?_; (focus omega); (focus omega); (focus exact hE6.size); intro v7 w7 ho7 hw7; have hE7 := (hW6.trans hw7).to_ext (Nat.le_refl _))
            | (go_at_call 7; refine (of_of v7 (la ++ lb) _ (ho7.vals ?_) ?_).mono ?_; (focus (intro u hu; rcases List.mem_append.1 hu with hu | hu; exact HA.out.ok u hu; exact HB.out.ok u hu)); (focus (simp; omega)); rintro e w8 ⟨rfl, hb8⟩; have hE58 := hE7.trans hb8)
            | (refine wpList_store32 (l' := sketchOf (la ++ lb)) rfl (.tmp 13) _ rfl rfl rfl (sketchOf_len _) (RowB.new (l := List.replicate 64 0) rfl _ _ rfl (by decide)) ?_; intro w9 hr9 hb9; have hE89 := But.to_ext ((Ext.refl w8).alloc _) hb9 (Nat.le_refl _); have hE59 := hE58.trans hE89; have HX9 := Lib.hid (RowB.ext hE59 HRX.out); have HY9 := Lib.hid (RowB.ext hE59 HRY.out); have HB9 := Lib.hid hr9; have HO9 := Lib.hid (HOWN5.out.ext hE59); have hE09 := hE05.trans hE59))
          have hbX := sketchOf_byte la
          have hbY := sketchOf_byte lb
          have hB := sketchOf_len (la ++ lb)
          have hbB := sketchOf_byte (la ++ lb)
          have hlast : lv ++ lp.take la.length = lv ++ (la.map Val.plain).reverse := by
            rw [List.take_of_length_le (by omega), HLP.out]
          have hag := sketch_again la lv HA.out.ok HMEM.out
          have hok2 : ∀ u ∈ lv ++ (la.map Val.plain).reverse, u.Ok := by
            intro u hu
            rcases List.mem_append.1 hu with hu | hu
            · exact HA.out.ok u (HMEM.out u hu)
            · obtain ⟨x, hx, rfl⟩ := List.mem_map.1 (List.mem_reverse.1 hu)
              exact (Val.plain_flat (HA.out.ok x hx)).ok
          have hL := sketchOf_len (lv ++ (la.map Val.plain).reverse)
          have hbL := sketchOf_byte (lv ++ (la.map Val.plain).reverse)
          have hlen2 : (lv ++ (la.map Val.plain).reverse).length ≤ 1000000000 := by simp; omega
          rw [hlast] at HO9
          clear hlast
          have hm1 : mergeR (sketchOf la) (sketchOf lb) = sketchOf (la ++ lb) := merge_sketch la lb
          have hm2 : mergeR (sketchOf lb) (sketchOf la) = sketchOf (la ++ lb) := merge_comm.trans hm1
          have hm3 : mergeR (sketchOf la) (sketchOf la) = sketchOf la := merge_self _
          have hrt := sketch_right (la ++ lb)
          have HMG := Lib.hid (And.intro hm1 (And.intro hm2 hm3))
          have HRT := Lib.hid hrt
          clear hm1 hm2 hm3 hrt
          generalize sketchOf la = X at *
          generalize sketchOf lb = Y at *
          generalize sketchOf (la ++ lb) = B at *
          refine wp_region_ext (by kernel_rfl) (by kernel_rfl) ?_
          repeat (first
            | (refine quiet_load32 rfl (.tmp 11) rfl rfl (fun w hw => RowB.ext hw HX9.out) ?_)
            | (refine quiet_load32 rfl (.tmp 12) rfl rfl (fun w hw => RowB.ext hw HY9.out) ?_)
            | (refine quiet_load32 rfl (.tmp 13) rfl rfl (fun w hw => RowB.ext hw HB9.out) ?_)
            | (refine quiet_eq32 rfl (.tmp 78) (.tmp 79) _ rfl rfl rfl hL hX hbL hbX (decide_eq_true hag) ?_)
            | (refine quiet_eq32 rfl (.tmp 84) (.tmp 85) _ rfl rfl rfl (mergeR_length hX hY) hB (mergeR_byte hbX hbY) hbB (decide_eq_true HMG.out.1) ?_)
            | (refine quiet_eq32 rfl (.tmp 91) (.tmp 92) _ rfl rfl rfl (mergeR_length hY hX) hB (mergeR_byte hbY hbX) hbB (decide_eq_true HMG.out.2.1) ?_)
            | (refine quiet_eq32 rfl (.tmp 98) (.tmp 99) _ rfl rfl rfl (mergeR_length hX hX) hX (mergeR_byte hbX hbX) hbX (decide_eq_true HMG.out.2.2) ?_)
            | (refine wpQuiet_step (fun K hK => ?_)
               go_simp
               first
                 | (refine hK _ ?_; clear hK K)
                 | (refine ⟨_, fun w hw => rfl, hK _ ?_⟩; clear hK K)
                 | (apply Exists.intro
                    refine ⟨fun w hw => ?_, hK _ ?_⟩
                    (focus first
                      | exact (of_of _ _ w ((HO9.out.vals hok2).ext hw) hlen2).mono fun _ _ ⟨h1, h2⟩ => ⟨h1, hw.trans h2⟩
                      | exact (merge_of _ _ w (by assumption) (by assumption) (by assumption) (by assumption)).mono fun _ _ ⟨h1, h2⟩ => ⟨h1, hw.trans h2⟩
                      | exact (hright_of _ w (by assumption) (by assumption)).mono fun _ _ ⟨h1, h2⟩ => ⟨h1, hw.trans h2⟩)
                    clear hK K)))
          refine wpQuiet_nil ?_
          intro w10 h10
          go_wp2
          go_ret
          exact ⟨ret_bool HRT.out, hE09.trans h10⟩
end Go.Proofs.YtlcdjaclahhdnaaDoor
