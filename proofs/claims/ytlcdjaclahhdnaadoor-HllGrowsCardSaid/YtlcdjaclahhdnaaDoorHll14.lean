/- The call of HllGrows. -/
import Derived.Test.YtlcdjaclahhdnaaDoorHll13
namespace Go.Proofs.YtlcdjaclahhdnaaDoor
open Go.RowKit
set_option linter.unusedSimpArgs false
set_option linter.unusedVariables false

theorem addR_same (r : List Nat) (v : Val) (hr : r.length = 64) : addR (addR r v) v = addR r v := by
  have h1 := (addR_length r v).trans hr
  refine row_eq ((addR_length _ v).trans h1) h1 fun j => ?_
  rw [addR_getD _ v h1, addR_getD r v hr]
  split <;> omega
theorem merge_add (r : List Nat) (v : Val) (hr : r.length = 64) : mergeR r (addR r v) = addR r v := by
  have h1 := (addR_length r v).trans hr
  refine row_eq (mergeR_length hr h1) h1 fun j => ?_
  rw [mergeR_getD hr h1, addR_getD r v hr]
  split <;> omega
theorem right_iff (r : List Nat) (hr : r.length = 64) : rightR r = true ↔ ∀ j, r.getD j 0 ≤ 59 := by
  unfold rightR
  rw [List.all_eq_true]
  constructor
  · intro h j
    rw [List.getD_eq_getElem?_getD]
    cases he : r[j]? with
    | none => simp
    | some x => simpa using h x (List.mem_of_getElem? he)
  · intro h x hx
    obtain ⟨j, hj, rfl⟩ := List.getElem_of_mem hx
    have := h j
    simpa [List.getD_eq_getElem?_getD, hj] using this
theorem right_add (r : List Nat) (v : Val) (hr : r.length = 64) : rightR (addR r v) = rightR r := by
  have h1 := (addR_length r v).trans hr
  have hk := rankV_le v
  rw [Bool.eq_iff_iff, right_iff _ h1, right_iff _ hr]
  constructor
  · intro h j
    have := h j
    rw [addR_getD r v hr] at this
    split at this <;> omega
  · intro h j
    have := h j
    rw [addR_getD r v hr]
    split <;> omega
theorem addR_at (r : List Nat) (v : Val) (hr : r.length = 64) (i : Nat) (hi : i < 64) : ∃ p q, r[i]? = some p ∧ (addR r v)[i]? = some q ∧ p ≤ q ∧ (q ≠ p → i = atV v) := by
  have h := addR_getD r v hr i
  have hi2 : i < (addR r v).length := by rw [addR_length]; omega
  have hi3 : i < r.length := by omega
  simp only [List.getD_eq_getElem?_getD, List.getElem?_eq_getElem hi2, List.getElem?_eq_getElem hi3, Option.getD_some] at h
  refine ⟨_, _, List.getElem?_eq_getElem hi3, List.getElem?_eq_getElem hi2, ?_⟩
  rw [h]
  split
  · exact ⟨by omega, fun _ => by omega⟩
  · exact ⟨Nat.le_refl _, fun h => absurd rfl h⟩
theorem RowB.cellq {w : World} {g : Nat} {l : List Nat} (h : RowB w g l) (j : Nat) {p : Nat} (hp : l[j]? = some p) : w.cell? ⟨g, j, none⟩ = some (.int .u8 (p : Int)) := by
  have := h.cells j (.int .u8 (p : Int)) (by simp [bv, hp])
  rwa [Nat.zero_add] at this
theorem fold_zip (vs : List Value) : ∀ (k : Nat) (arr : Array Value), arr.size = k + vs.length → (vs.zipIdx k).foldl (fun cs x => cs.setIfInBounds x.snd x.fst) arr = (arr.toList.take k ++ vs).toArray := by
  induction vs with
  | nil =>
    intro k arr h
    simp only [List.length_nil, Nat.add_zero] at h
    rw [List.zipIdx_nil, List.foldl_nil, List.append_nil, List.take_of_length_le (by simp; omega)]
  | cons v vs ih =>
    intro k arr h
    rw [List.zipIdx_cons, List.foldl_cons, ih _ _ (by simp [h]; omega)]
    congr 1
    have hk : k < arr.toList.length := by simp; simp at h; omega
    have : (arr.setIfInBounds k v).toList.take (k + 1) = arr.toList.take k ++ [v] := by
      rw [Array.toList_setIfInBounds, List.take_succ_eq_append_getElem (by simp; simp at hk; omega), List.take_set_of_le (Nat.le_refl _)]
      simp
    rw [this, List.append_assoc]; rfl
theorem fold_build (l : List Nat) (hl : l.length = 64) (arr : Array Value) (ha : arr.size = 64) : ((bv l).zipIdx).foldl (fun cs x => cs.setIfInBounds x.snd x.fst) arr = (bv l).toArray := by
  rw [fold_zip (bv l) 0 arr (by rw [ha, bv_length, hl])]; simp
set_option maxRecDepth 100000 in
theorem build32x (l : List Nat) (hl : l.length = 64) (w : World) : (Instr.build 32 #[(0, .agg (bv l).toArray)]).run Tryd.prog w = .ok (.agg (bv l).toArray) w := by
  have hf := fold_build l hl
  have hlen : (bv l).length = 64 := by rw [bv_length, hl]
  simp [Instr.build, go_sem]
  rw [if_neg (by omega), hf _ rfl]; rfl
theorem wpList_build32x {w : World} {ops : Array Oper} {rest : List Oper} {o : Oper} {a : Act} {Q : Exit → Act → World → Prop} {l : List Nat} (hw : Region.wanted o (yielded ops a.tmps) = true) (x : Operand) (ho : o.op = .build 32 #[(0, x)])
    (hx : a.eval x = .agg (bv l).toArray) (hl : l.length = 64) (h : wpList Tryd.prog ops Q rest (a.put o.dst (.agg (bv l).toArray)) w) : wpList Tryd.prog ops Q (o :: rest) a w := by
  refine wpList_wanted hw fun K hK => ?_
  unfold Oper.wp execOp
  have hb := build32x l hl w
  simp only [ho, List.map_toArray, List.map_cons, List.map_nil, hx, Sem.run_bind, Sem.run_pure, Result.andThen_ok, hb]
  exact hK _ _ h
section
variable {C : World → Prop} {ops : Array Oper} {rest : List Oper} {o : Oper} {a : Act} {Q : Act → Prop} {g : Nat}
theorem quiet_idx30 (hw : Region.wanted o (yielded ops a.tmps) = true) (x y : Operand) (ho : o.op = .indexAddr 30 x y) {q : Nat} {k : IntKind} (hx : a.eval x = .pointer (some ⟨g, 0, none⟩)) (hy : a.eval y = .int k (q : Int)) (hq : q < 64)
    (h : wpQuiet Tryd.prog ops C Q rest (a.put o.dst (.pointer (some ⟨g, q, none⟩)))) : wpQuiet Tryd.prog ops C Q (o :: rest) a :=
  quiet_run hw _ (fun w hC => by
    unfold execOp
    simp only [ho, hx, hy, Sem.run_bind, Sem.run_pure, Result.andThen_ok, idx30 g q k hq]) h
theorem quiet_byte (hw : Region.wanted o (yielded ops a.tmps) = true) (x : Operand) (ho : o.op = .load 5 x) {q m : Nat} (hx : a.eval x = .pointer (some ⟨g, q, none⟩)) (hc : ∀ w, C w → w.cell? ⟨g, q, none⟩ = some (.int .u8 (m : Int)))
    (h : wpQuiet Tryd.prog ops C Q rest (a.put o.dst (.int .u8 (m : Int)))) : wpQuiet Tryd.prog ops C Q (o :: rest) a :=
  quiet_run hw _ (fun w hC => by
    have h1 := hc w hC
    unfold execOp
    simp only [ho, hx]
    simp [go_sem, h1]) h
theorem quiet_loadA {P : Program} (hw : Region.wanted o (yielded ops a.tmps) = true) (x : Operand) {t : TypeId} {f : Nat} {vs : List Value} (hk : aggOk P t vs.length = true) (ho : o.op = .load t x) (hx : a.eval x = .pointer (some ⟨g, f, none⟩)) (hc : ∀ w, C w → At w g f vs)
    (h : wpQuiet P ops C Q rest (a.put o.dst (.agg vs.toArray))) : wpQuiet P ops C Q (o :: rest) a :=
  quiet_run hw _ (fun w hC => by
    have hl := run_loadVar_at hk (hc w hC)
    unfold execOp
    simp only [ho, hx, Instr.loadAt, Instr.sureAddr, Sem.run_bind, Sem.run_pure, Result.andThen_ok, hl]) h
end

theorem not_lt64 {i : Nat} (h : ¬ i < 64) : ¬ ((i : Int) < 64) := by omega
theorem eq64 {i : Nat} (h : i ≤ 64) (h2 : ¬ i < 64) : i = 64 := by omega
theorem le_one {u : Nat} {p : Prop} [Decidable p] (h : u ≤ (if p then 1 else 0)) : decide ((1 : Int) < (u : Int)) = false := by
  have : u ≤ 1 := by split at h <;> omega
  rw [decide_eq_false_iff_not]; omega
theorem step_one {u i av : Nat} (hu : u ≤ if av < i then 1 else 0) (h : i = av) : u + 1 ≤ if av < i + 1 then 1 else 0 := by
  subst h
  rw [if_neg (by omega)] at hu
  rw [if_pos (by omega)]; omega
theorem step_none {u i av : Nat} (hu : u ≤ if av < i then 1 else 0) : u ≤ if av < i + 1 then 1 else 0 := by
  split at hu <;> split <;> omega
theorem wrap_succ {u : Nat} (h : u ≤ 1) : wrap64 ((u : Int) + 1) = ((u + 1 : Nat) : Int) := by unfold wrap64; omega

set_option maxRecDepth 100000 in
set_option maxHeartbeats 4000000 in
theorem grows_walk (l : List Nat) (v : Val) (w : World) (hl : l.length = 64) (hby : ∀ x ∈ l, x < 256) (hv : v.Ok)
    (hfew : w.cell? ⟨0, 63, none⟩ = some (.int .u16 1)) (hgl : 0 < w.heap.size) :
    Calls Tryd.prog 4 #[.agg (bv l).toArray, .agg #[.int .i64 v.kind, .int .i64 v.int, .float .f64 v.flt, .string v.text]] w fun e w' => e = .returned (.bool true) ∧ Ext w w' := by
  have h0 := Lib.hid (RowB.new (w := w) rfl 30 _ rfl hl)
  have hwk := Lib.hid (fun u (hu : Ext w u) => works17_of u (((hu.at_ _ hgl).1 63).trans hfew) (hu.at_ _ hgl).2.2)
  have ha := Lib.hid (fun w => add_of l v w hl hby hv)
  have hA := (addR_length l v).trans hl
  have hbA : ∀ x ∈ addR l v, x < 256 := addR_byte hby
  have HBL := Lib.hid hby; have HBA := Lib.hid hbA
  have HAT := Lib.hid (fun i (hi : i < 64) => addR_at l v hl i hi)
  have HV := Lib.hid hv
  have HA2 := Lib.hid (fun w => add_of (addR l v) v w hA hbA hv)
  have HSM := Lib.hid (addR_same l v hl)
  have HMG := Lib.hid (merge_add l v hl)
  have HRA := Lib.hid (right_add l v hl)
  have hE0 : Ext w ((w.alloc (.cells (bv l).toArray 30)).alloc (.cells #[.int .i64 v.kind, .int .i64 v.int, .float .f64 v.flt, .string v.text] 27)) := ((Ext.refl w).alloc _).alloc _
  have hv0 : At ((w.alloc (.cells (bv l).toArray 30)).alloc (.cells #[.int .i64 v.kind, .int .i64 v.int, .float .f64 v.flt, .string v.text] 27)) (w.heap.size + 1) 0 [.int .i64 v.kind, .int .i64 v.int, .float .f64 v.flt, .string v.text] := by
    simp [At, go_sem]
  have HV0 := Lib.hid hv0; have HE0 := Lib.hid hE0
  clear hby hbA hv hv0 hE0
  have hav := atV_lt v
  generalize addR l v = A at *
  generalize atV v = av at *
  go_enter Tryd.func4, Tryd.ntmps4
  go_wp2_with (first
    | (go_at_call 5; refine (hwk.out _ HE0.out).mono ?_; rintro e w1 ⟨rfl, hb⟩; have h1 := Lib.hid (RowB.ext hb (h0.out.alloc _)); have hv1 := Lib.hid (HV0.out.ext hb (by simp)); have hE1 := HE0.out.trans hb; have hs1 := hb.size)
    | (refine wpList_load30 rfl (.tmp 2) rfl rfl h1.out ?_)
    | (refine wpList_build32x rfl (.tmp 13) rfl rfl hl ?_)
    | (refine wpList_store32 (l' := l) rfl (.tmp 5) _ rfl rfl rfl hl (RowB.new (l := List.replicate 64 0) rfl _ _ rfl (by decide)) ?_; intro w2 hr2 hb2; have hX2 := Lib.hid hr2; have hE12 := But.to_ext ((Ext.refl w1).alloc _) hb2 (Nat.le_refl _); have hv2 := Lib.hid (hv1.out.ext hE12 (by simp at hs1; omega)); have h2 := Lib.hid (RowB.ext hE12 h1.out); have hs2 := hE12.size; clear hr2)
    | (refine wpList_load32 (l := l) rfl (.tmp 5) rfl rfl hX2.out ?_)
    | (refine wpList_wish rfl fun K hK => wp_loadA (vs := [.int .i64 v.kind, .int .i64 v.int, .float .f64 v.flt, .string v.text]) agg_val (.tmp 3) rfl rfl hv2.out (hK _ _ ?_))
    | (go_at_call 10; refine (ha.out _).mono ?_; rintro e w3 ⟨rfl, hb3⟩)
    | (refine wpList_store32 (l' := A) rfl (.tmp 6) _ rfl rfl rfl hA (RowB.new (l := List.replicate 64 0) rfl _ _ rfl (by decide)) ?_; intro w4 hr4 hb4; have hY4 := Lib.hid hr4; have hE24 := hb3.trans (But.to_ext ((Ext.refl w3).alloc _) hb4 (Nat.le_refl _)); have h4 := Lib.hid (RowB.ext hE24 h2.out); have hX4 := Lib.hid (RowB.ext hE24 hX2.out); have hv4 := Lib.hid (hv2.out.ext hE24 (by simp at hs1; omega)); have hE4 := hE1.trans (hE12.trans hE24); clear hr4))
  go_loopw [7, 18] (fun x y wr => ∃ i u : Nat, y = .int .i64 (i : Int) ∧ x = .int .i64 (u : Int) ∧ i ≤ 64 ∧ u ≤ (if av < i then 1 else 0) ∧ Ext w4 wr) (fun _ y _ => 64 - (intOf y).toNat)
  case atStart => exact ⟨0, 0, rfl, rfl, by omega, by omega, Ext.refl _⟩
  case round =>
    rename_i hrel
    obtain ⟨i, u, rfl, rfl, hi, hu, hE⟩ := hrel
    by_cases hlt : i < 64
    · have hlt' : (i : Int) < 64 := by omega
      have hw : wrap64 ((i : Int) + 1) = (i : Int) + 1 := by unfold wrap64; omega
      obtain ⟨p, q, hp, hq, hpq, hat⟩ := HAT.out i hlt
      have HP := Lib.hid hp; have HQ := Lib.hid hq; have HAQ := Lib.hid hat; have HU := Lib.hid hu
      have hpq' : ¬ ((q : Int) < (p : Int)) := by omega
      have hpqd : decide (q < p) = false := by simp; omega
      have hpqn : ¬ q < p := by omega
      clear hp hq hat hu
      go_wp2_with fail
      refine wp_region_ext (by kernel_rfl) (by kernel_rfl) ?_
      repeat (first
        | (refine quiet_idx30 rfl (.tmp 22) (.tmp 21) rfl rfl rfl hlt ?_)
        | (refine quiet_idx30 rfl (.tmp 2) (.tmp 25) rfl rfl rfl hlt ?_)
        | (refine quiet_byte rfl (.tmp 23) rfl rfl (fun w hw => (RowB.ext (hE.trans hw) hY4.out).cellq i HQ.out) ?_)
        | (refine quiet_byte rfl (.tmp 26) rfl rfl (fun w hw => (RowB.ext (hE.trans hw) h4.out).cellq i HP.out) ?_)
        | (refine wpQuiet_step (fun K hK => ?_)
           go_simp
           first
             | (refine hK _ ?_; clear hK K)
             | (refine ⟨_, fun w hw => rfl, hK _ ?_⟩; clear hK K)))
      refine wpQuiet_nil ?_
      intro w5 h5
      go_wp2_with fail
      refine wp_region_ext (by kernel_rfl) (by kernel_rfl) ?_
      repeat (first
        | (refine quiet_idx30 rfl (.tmp 30) (.tmp 29) rfl rfl rfl hlt ?_)
        | (refine quiet_idx30 rfl (.tmp 2) (.tmp 33) rfl rfl rfl hlt ?_)
        | (refine quiet_byte rfl (.tmp 31) rfl rfl (fun w hw => (RowB.ext (hE.trans (h5.trans hw)) hY4.out).cellq i HQ.out) ?_)
        | (refine quiet_byte rfl (.tmp 34) rfl rfl (fun w hw => (RowB.ext (hE.trans (h5.trans hw)) h4.out).cellq i HP.out) ?_)
        | (refine wpQuiet_step (fun K hK => ?_)
           go_simp
           first
             | (refine hK _ ?_; clear hK K)
             | (refine ⟨_, fun w hw => rfl, hK _ ?_⟩; clear hK K)))
      refine wpQuiet_nil ?_
      intro w6 h6
      by_cases hne : q = p
      · have hn1 : (q != p) = false := by simpa using hne
        have hn2 : (q == p) = true := by simpa using hne
        go_wp2_with fail
        refine ⟨⟨i + 1, u, by simp, rfl, by omega, ?_, hE.trans (h5.trans h6)⟩, by simp [intOf] <;> omega⟩
        exact step_none HU.out
      · have hn1 : ((q : Int) != (p : Int)) = true := by simp; omega
        have hia := HAQ.out hne
        have hu1 : u ≤ 1 := by have := HU.out; split at this <;> omega
        have hw2 : wrap64 ((u : Int) + 1) = (u : Int) + 1 := by unfold wrap64; omega
        have HIA := Lib.hid hia; clear hia
        go_wp2_with fail
        refine ⟨⟨i + 1, u + 1, by simp, congrArg (Value.int .i64) (wrap_succ hu1), by omega, ?_, hE.trans (h5.trans h6)⟩, by simp [intOf] <;> omega⟩
        exact step_one HU.out HIA.out
    · have hlt' := not_lt64 hlt
      obtain rfl := eq64 hi hlt
      have HUD := Lib.hid (le_one hu)
      clear hu
      go_wp2_with fail
      have hbl := HBL.out; have hba := HBA.out
      have HR2 : Hid (∀ w, Calls Tryd.prog 9 #[.agg (bv A).toArray] w fun e w' => e = .returned (.bool (rightR l)) ∧ Ext w w') := Lib.hid (fun w => by have := hright_of A w hA hba; rwa [HRA.out] at this)
      have HD1 := Lib.hid (show (!decide (mergeR l A = A)) = false by rw [HMG.out]; simp)
      have HD2 := Lib.hid (show (!decide (addR A v = A)) = false by rw [HSM.out]; simp)
      refine wp_region_ext (by kernel_rfl) (by kernel_rfl) ?_
      repeat (first
        | (refine quiet_load32 rfl (.tmp 5) rfl rfl (fun w hw => RowB.ext (hE.trans hw) hX4.out) ?_)
        | (refine quiet_load32 rfl (.tmp 6) rfl rfl (fun w hw => RowB.ext (hE.trans hw) hY4.out) ?_)
        | (refine quiet_loadA (vs := [.int .i64 v.kind, .int .i64 v.int, .float .f64 v.flt, .string v.text]) rfl (.tmp 3) agg_val rfl rfl (fun w hw => hv4.out.ext (hE.trans hw) (by simp at hs1; have := hE24.size; omega)) ?_)
        | (refine quiet_neq32 rfl (.tmp 45) (.tmp 46) _ rfl rfl rfl (mergeR_length hl hA) hA (mergeR_byte hbl hba) hba HD1.out ?_)
        | (refine quiet_neq32 rfl (.tmp 52) (.tmp 53) _ rfl rfl rfl ((addR_length A v).trans hA) hA (addR_byte hba) hba HD2.out ?_)
        | (refine wpQuiet_step (fun K hK => ?_)
           go_simp
           first
             | (refine hK _ ?_; clear hK K)
             | (refine ⟨_, fun w hw => rfl, hK _ ?_⟩; clear hK K)
             | (apply Exists.intro
                refine ⟨fun w hw => ?_, hK _ ?_⟩
                (focus first
                  | (go_at_call 8; exact (merge_of _ _ w hl hA hbl hba).mono fun _ _ ⟨h1, h2⟩ => ⟨h1, hw.trans h2⟩)
                  | (go_at_call 10; exact (HA2.out w).mono fun _ _ ⟨h1, h2⟩ => ⟨h1, hw.trans h2⟩)
                  | (go_at_call_of 9 (bv A); exact (HR2.out w).mono fun _ _ ⟨h1, h2⟩ => ⟨h1, hw.trans h2⟩)
                  | (go_at_call_of 9 (bv l); exact (hright_of l w hl hbl).mono fun _ _ ⟨h1, h2⟩ => ⟨h1, hw.trans h2⟩))
                clear hK K))
        | (simp only [HUD.out]))
      refine wpQuiet_nil ?_
      intro w5 h5
      have hX5 := Lib.hid (RowB.ext (hE.trans h5) hX4.out)
      have hne : l ≠ [] := fun e => by rw [e] at hl; simp at hl
      have HRL := Lib.hid (fun w => hright_of l w hl hbl)
      cases hR : rightR l
      · have HTK : Hid (∀ r B w, Rd w r B l → Calls Tryd.prog 11 #[.pointer (some ⟨r, 0, none⟩)] w fun e w' => e = .returned (.tuple #[.agg (bv zeros64).toArray, .int .i64 22]) ∧ But r w w') := Lib.hid (fun r B w h => by
          have := take17_of r B l w h hl hbl
          unfold tookL tookE at this
          rw [hR] at this; exact this)
        rw [hR] at HRL
        go_wp2_with (first
          | (go_at_call 13; refine (put17_of l _ hl).mono ?_; rintro e w6 ⟨v6, rfl, ho6, hb6⟩; obtain ⟨g6, cc, rfl, hg1, hg2, hgc, hga⟩ := ho6.some hne; have HGA := Lib.hid hga; clear hga)
          | (go_at_call 12; refine (read_of g6 64 cc 0 _ l hg2 hl (by omega) HGA.out).mono ?_; rintro e w7 ⟨rfl, hr7, hb7⟩; have HR7 := Lib.hid hr7; clear hr7)
          | (go_at_call 11; refine (HTK.out _ g6 _ HR7.out).mono ?_; rintro e w8 ⟨rfl, hb8⟩; have hE58 := But.to_ext (hb6.trans hb7) hb8 hb6.size; have hX8 := Lib.hid (RowB.ext hE58 hX5.out))
          | (refine wpList_store32 (l' := zeros64) rfl (.tmp 9) _ rfl rfl rfl zeros64_len (RowB.new (l := List.replicate 64 0) rfl _ _ rfl (by decide)) ?_; intro w9 hr9 hb9; have hE89 := But.to_ext ((Ext.refl w8).alloc _) hb9 (Nat.le_refl _); have hX9 := Lib.hid (RowB.ext hE89 hX8.out); have hT9 := Lib.hid hr9; clear hr9)
          | (go_at_call 9; refine (HRL.out _).mono ?_; rintro e w10 ⟨rfl, hb10⟩; have hX10 := Lib.hid (RowB.ext hb10 hX9.out); have hT10 := Lib.hid (RowB.ext hb10 hT9.out))
          | (refine wpList_load32 (l := l) rfl (.tmp 5) rfl rfl hX9.out ?_)
          | (refine wpList_load32 (l := l) rfl (.tmp 5) rfl rfl hX5.out ?_)
          | (refine wpList_wanted rfl fun K hK => wp_load32 (l := zeros64) (.tmp 9) rfl rfl hT10.out (hK _ _ ?_))
          | (refine wpList_build32 rfl rfl ?_)
          | (refine wpList_wanted rfl fun K hK => wp_eq32 (l := zeros64) (m := zeros64) (.tmp 76) (.tmp 77) _ rfl rfl rfl zeros64_len zeros64_len zeros64_byte zeros64_byte (hK _ _ ?_); rw [decide_eq_true rfl]))
        all_goals go_ret
        all_goals exact ⟨rfl, hE4.trans (hE.trans (h5.trans (hE58.trans (hE89.trans hb10))))⟩
      · have HTK : Hid (∀ r B w, Rd w r B l → Calls Tryd.prog 11 #[.pointer (some ⟨r, 0, none⟩)] w fun e w' => e = .returned (.tuple #[.agg (bv l).toArray, .int .i64 0]) ∧ But r w w') := Lib.hid (fun r B w h => by
          have := take17_of r B l w h hl hbl
          unfold tookL tookE at this
          rw [hR] at this; exact this)
        rw [hR] at HRL
        go_wp2_with (first
          | (go_at_call 13; refine (put17_of l _ hl).mono ?_; rintro e w6 ⟨v6, rfl, ho6, hb6⟩; obtain ⟨g6, cc, rfl, hg1, hg2, hgc, hga⟩ := ho6.some hne; have HGA := Lib.hid hga; clear hga)
          | (go_at_call 12; refine (read_of g6 64 cc 0 _ l hg2 hl (by omega) HGA.out).mono ?_; rintro e w7 ⟨rfl, hr7, hb7⟩; have HR7 := Lib.hid hr7; clear hr7)
          | (go_at_call 11; refine (HTK.out _ g6 _ HR7.out).mono ?_; rintro e w8 ⟨rfl, hb8⟩; have hE58 := But.to_ext (hb6.trans hb7) hb8 hb6.size; have hX8 := Lib.hid (RowB.ext hE58 hX5.out))
          | (refine wpList_store32 (l' := l) rfl (.tmp 9) _ rfl rfl rfl hl (RowB.new (l := List.replicate 64 0) rfl _ _ rfl (by decide)) ?_; intro w9 hr9 hb9; have hE89 := But.to_ext ((Ext.refl w8).alloc _) hb9 (Nat.le_refl _); have hX9 := Lib.hid (RowB.ext hE89 hX8.out); have hT9 := Lib.hid hr9; clear hr9)
          | (go_at_call 9; refine (HRL.out _).mono ?_; rintro e w10 ⟨rfl, hb10⟩; have hX10 := Lib.hid (RowB.ext hb10 hX9.out); have hT10 := Lib.hid (RowB.ext hb10 hT9.out))
          | (refine wpList_load32 (l := l) rfl (.tmp 5) rfl rfl hX9.out ?_)
          | (refine wpList_load32 (l := l) rfl (.tmp 5) rfl rfl hX5.out ?_)
          | (refine wpList_wanted rfl fun K hK => wp_load32 (l := l) (.tmp 9) rfl rfl hT10.out (hK _ _ ?_))
          | (refine wpList_wanted rfl fun K hK => wp_load32 (l := l) (.tmp 5) rfl rfl hX10.out (hK _ _ ?_))
          | (refine wpList_wanted rfl fun K hK => wp_eq32 (l := l) (m := l) (.tmp 83) (.tmp 84) _ rfl rfl rfl hl hl hbl hbl (hK _ _ ?_); rw [decide_eq_true rfl]))
        all_goals go_ret
        all_goals exact ⟨rfl, hE4.trans (hE.trans (h5.trans (hE58.trans (hE89.trans hb10))))⟩
end Go.Proofs.YtlcdjaclahhdnaaDoor
