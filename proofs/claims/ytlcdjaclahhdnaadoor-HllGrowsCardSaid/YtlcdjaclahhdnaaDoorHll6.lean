/- The call of hll.Estimate. -/
import Derived.Test.YtlcdjaclahhdnaaDoorHll5
namespace Go.Proofs.YtlcdjaclahhdnaaDoor
open Go.RowKit
set_option linter.unusedSimpArgs false
set_option linter.unusedVariables false

section
variable {w : World} {o : Oper} {a : Act} {K : Act → World → Prop} {Q : Exit → Act → World → Prop} {g : Nat} {l m : List Nat}
theorem wp_load32 (x : Operand) (ho : o.op = .load 32 x) (hx : a.eval x = .pointer (some ⟨g, 0, none⟩)) (hr : RowB w g l)
    (h : K (a.put o.dst (.agg (bv l).toArray)) w) : o.wp Tryd.prog a w K Q :=
  wp_load_mid _ x ho g 0 hx (bv l) _ hr.cells Tryd.underlying32 rfl (by rw [size32, bv_length, hr.len]) h
theorem wp_load30 (x : Operand) (ho : o.op = .load 30 x) (hx : a.eval x = .pointer (some ⟨g, 0, none⟩)) (hr : RowB w g l)
    (h : K (a.put o.dst (.agg (bv l).toArray)) w) : o.wp Tryd.prog a w K Q :=
  wp_load_mid _ x ho g 0 hx (bv l) _ hr.cells Tryd.underlying30 rfl (by rw [size30, bv_length, hr.len]) h
theorem guard32 : Tryd.prog.eqGuardType Tryd.prog.depth 32 = false := by kernel_rfl
theorem guard30 : Tryd.prog.eqGuardType Tryd.prog.depth 30 = false := by kernel_rfl
theorem wp_eq32 (x y : Operand) (t : TypeId) (ho : o.op = .binOp .eql 32 x y t) (hx : a.eval x = .agg (bv l).toArray) (hy : a.eval y = .agg (bv m).toArray)
    (hl : l.length = 64) (hm : m.length = 64) (hlb : ∀ x ∈ l, x < 256) (hmb : ∀ x ∈ m, x < 256)
    (h : K (a.put o.dst (.bool (decide (l = m)))) w) : o.wp Tryd.prog a w K Q := by
  unfold Oper.wp execOp
  simp only [ho, hx, hy, Sem.run_bind, Sem.run_pure, Result.andThen_ok, run_eqGuard_agg w _ _ _ _ _ _ guard32, eql32 hl hm hlb hmb]
  exact h
theorem wp_neq32 (x y : Operand) (t : TypeId) (ho : o.op = .binOp .neq 32 x y t) (hx : a.eval x = .agg (bv l).toArray) (hy : a.eval y = .agg (bv m).toArray)
    (hl : l.length = 64) (hm : m.length = 64) (hlb : ∀ x ∈ l, x < 256) (hmb : ∀ x ∈ m, x < 256)
    (h : K (a.put o.dst (.bool (!decide (l = m)))) w) : o.wp Tryd.prog a w K Q := by
  unfold Oper.wp execOp
  simp only [ho, hx, hy, Sem.run_bind, Sem.run_pure, Result.andThen_ok, run_eqGuard_agg w _ _ _ _ _ _ guard32, neq32 hl hm hlb hmb]
  exact h
theorem wp_neq30 (x y : Operand) (t : TypeId) (ho : o.op = .binOp .neq 30 x y t) (hx : a.eval x = .agg (bv l).toArray) (hy : a.eval y = .agg (bv m).toArray)
    (hl : l.length = 64) (hm : m.length = 64) (hlb : ∀ x ∈ l, x < 256) (hmb : ∀ x ∈ m, x < 256)
    (h : K (a.put o.dst (.bool (!decide (l = m)))) w) : o.wp Tryd.prog a w K Q := by
  unfold Oper.wp execOp
  simp only [ho, hx, hy, Sem.run_bind, Sem.run_pure, Result.andThen_ok, run_eqGuard_agg w _ _ _ _ _ _ guard30, neq30 hl hm hlb hmb]
  exact h
end

theorem wpList_wanted {w : World} {ops : Array Oper} {rest : List Oper} {o : Oper} {a : Act} {Q : Exit → Act → World → Prop} (hw : Region.wanted o (yielded ops a.tmps) = true)
    (h : ∀ K : Act → World → Prop, (∀ a w, wpList Tryd.prog ops Q rest a w → K a w) → o.wp Tryd.prog a w K Q) : wpList Tryd.prog ops Q (o :: rest) a w :=
  wpList_step fun K hK => by rw [hw]; exact h K hK

theorem idx59 (q : Nat) (k : IntKind) (hq : q < 65) (w : World) : (Instr.indexAt 59 (.pointer (some ⟨0, 0, none⟩)) (.int k (q : Int))).run Tryd.prog w = .ok (.pointer (some ⟨0, q, none⟩)) w := by
  have h1 : (0 : Int) ≤ (q : Int) ∧ (q : Int) < 65 := by omega
  have h2 : (Tryd.prog.info? 58).map (·.size) = some 1 := by kernel_rfl
  obtain ⟨f, hf1, hf2⟩ := Option.map_eq_some_iff.1 h2
  have h3 : (⟨0, 0, none⟩ : Addr).add q = ⟨0, q, none⟩ := by rw [add_at, Nat.zero_add]
  simp [Instr.indexAt, run_underlying Tryd.underlying59, Instr.sureAddr, asIntOf, h1, sizeOf, typeInfo, hf1, hf2, h3]
  omega
theorem wpList_idx59 {w : World} {ops : Array Oper} {rest : List Oper} {o : Oper} {a : Act} {Q : Exit → Act → World → Prop} (hgd : o.guard = none) (x y : Operand) (ho : o.op = .indexAddr 59 x y) {q : Nat} {k : IntKind}
    (hx : a.eval x = .pointer (some ⟨0, 0, none⟩)) (hy : a.eval y = .int k (q : Int)) (hq : q < 65) (h : wpList Tryd.prog ops Q rest (a.put o.dst (.pointer (some ⟨0, q, none⟩))) w) : wpList Tryd.prog ops Q (o :: rest) a w := by
  refine wpList_plain hgd fun K hK => ?_
  unfold Oper.wp execOp
  simp only [ho, hx, hy, Sem.run_bind, Sem.run_pure, Result.andThen_ok, idx59 q k hq]
  exact hK _ _ h

def zOf (l : List Nat) : Nat := l.foldl (fun z m => if m ≤ 48 then z + 2 ^ (48 - m) else z) 0
def zerosOf (l : List Nat) : Nat := l.foldl (fun z m => if m = 0 then z + 1 else z) 0
theorem zOf_snoc (l : List Nat) (m : Nat) : zOf (l ++ [m]) = if m ≤ 48 then zOf l + 2 ^ (48 - m) else zOf l := by simp [zOf]
theorem zerosOf_snoc (l : List Nat) (m : Nat) : zerosOf (l ++ [m]) = if m = 0 then zerosOf l + 1 else zerosOf l := by simp [zerosOf]
theorem zOf_le (l : List Nat) : ∀ z, l.foldl (fun z m => if m ≤ 48 then z + 2 ^ (48 - m) else z) z ≤ z + l.length * 281474976710656 := by
  induction l with
  | nil => intro z; simp
  | cons m l ih =>
    intro z
    rw [List.foldl_cons, List.length_cons]
    refine Nat.le_trans (ih _) ?_
    split
    · have : 2 ^ (48 - m) ≤ 2 ^ 48 := Nat.pow_le_pow_right (by omega) (by omega)
      omega
    · omega
theorem zerosOf_le (l : List Nat) : ∀ z, l.foldl (fun z m => if m = 0 then z + 1 else z) z ≤ z + l.length := by
  induction l with
  | nil => intro z; simp
  | cons m l ih =>
    intro z
    rw [List.foldl_cons, List.length_cons]
    refine Nat.le_trans (ih _) ?_
    split <;> omega
theorem zOf_take (l : List Nat) (i : Nat) (hi : i ≤ 64) : zOf (l.take i) ≤ 18014398509481984 := by
  have h1 := zOf_le (l.take i) 0
  have h2 : (l.take i).length ≤ 64 := by rw [List.length_take]; omega
  unfold zOf
  omega
theorem zerosOf_take (l : List Nat) (i : Nat) (hi : i ≤ 64) : zerosOf (l.take i) ≤ 64 := by
  have h1 := zerosOf_le (l.take i) 0
  have h2 : (l.take i).length ≤ 64 := by rw [List.length_take]; omega
  unfold zerosOf
  omega
theorem zOf_next (l : List Nat) (i m : Nat) (hix : i < l.length) (hm : m = l[i]) : zOf (l.take (i + 1)) = if m ≤ 48 then zOf (l.take i) + 2 ^ (48 - m) else zOf (l.take i) := by
  rw [List.take_succ_eq_append_getElem hix, zOf_snoc, hm]
theorem zerosOf_next (l : List Nat) (i m : Nat) (hix : i < l.length) (hm : m = l[i]) : zerosOf (l.take (i + 1)) = if m = 0 then zerosOf (l.take i) + 1 else zerosOf (l.take i) := by
  rw [List.take_succ_eq_append_getElem hix, zerosOf_snoc, hm]
theorem wpList_at30 {w : World} {ops : Array Oper} {rest : List Oper} {o : Oper} {a : Act} {Q : Exit → Act → World → Prop} (hgd : o.guard = none) (x y : Operand) (ho : o.op = .index 30 x y) {A : Array Value} {i m : Nat}
    (hx : a.eval x = .agg A) (hy : a.eval y = .int .i64 (i : Int)) (hi : i < 64) (hA : A[i]? = some (.int .u8 (m : Int))) (h : wpList Tryd.prog ops Q rest (a.put o.dst (.int .u8 (m : Int))) w) : wpList Tryd.prog ops Q (o :: rest) a w := by
  refine wpList_plain hgd fun K hK => ?_
  unfold Oper.wp execOp
  simp only [ho, hx, hy, Sem.run_bind, Sem.run_pure, Result.andThen_ok, index30 A i m hi hA]
  exact hK _ _ h
theorem wpList_is0 {w : World} {ops : Array Oper} {rest : List Oper} {o : Oper} {a : Act} {Q : Exit → Act → World → Prop} (hgd : o.guard = none) (x : Operand) (t : TypeId) (ho : o.op = .binOp .eql 5 x (.const (.int .u8 0)) t) {m : Nat} {b : Bool}
    (hx : a.eval x = .int .u8 (m : Int)) (hb : decide (m = 0) = b) (h : wpList Tryd.prog ops Q rest (a.put o.dst (.bool b)) w) : wpList Tryd.prog ops Q (o :: rest) a w := by
  have hb' : ((m : Int) == 0) = b := by rw [← hb, Bool.eq_iff_iff]; simp
  have hr : (binOp .eql 5 (.int .u8 (m : Int)) (.int .u8 0)).run Tryd.prog w = .ok (.bool b) w := by
    rw [← hb']; simp [go_sem]
  refine wpList_plain hgd fun K hK => ?_
  unfold Oper.wp execOp
  have hc : a.eval (.const (.int .u8 0)) = .int .u8 0 := rfl
  have hg : (eqGuard .eql 5 x (.const (.int .u8 0)) (.int .u8 (m : Int)) (.int .u8 0)).run Tryd.prog w = .ok () w := by simp [eqGuard, go_sem]
  simp only [ho, hx, hc, Sem.run_bind, hg, hr, Result.andThen_ok, Sem.run_pure]
  exact hK _ _ h
def zeros64 : List Nat := List.replicate 64 0

set_option maxRecDepth 100000 in
theorem build32 (w : World) : (Instr.build 32 #[]).run Tryd.prog w = .ok (.agg (bv zeros64).toArray) w := by kernel_rfl
theorem zeros64_len : zeros64.length = 64 := by decide
theorem zeros64_byte : ∀ x ∈ zeros64, x < 256 := by decide
theorem wpList_build32 {w : World} {ops : Array Oper} {rest : List Oper} {o : Oper} {a : Act} {Q : Exit → Act → World → Prop} (hw : Region.wanted o (yielded ops a.tmps) = true) (ho : o.op = .build 32 #[])
    (h : wpList Tryd.prog ops Q rest (a.put o.dst (.agg (bv zeros64).toArray)) w) : wpList Tryd.prog ops Q (o :: rest) a w := by
  refine wpList_wanted hw fun K hK => ?_
  unfold Oper.wp execOp
  have hb := build32 w
  simp only [ho, List.map_toArray, List.map_nil, Sem.run_bind, Sem.run_pure, Result.andThen_ok] 
  first | (rw [hb]; exact hK _ _ h) | (simp [hb]; exact hK _ _ h)
attribute [irreducible] zeros64

set_option maxRecDepth 100000 in
set_option maxHeartbeats 400000 in
/-- The estimate, where it is looked up in the table. -/
theorem estimate_of (l : List Nat) (w : World) (hl : l.length = 64) (hb : ∀ x ∈ l, x < 256) (hne : l ≠ zeros64) (hr : rightR l = true) (z n e r : Nat) (hz : zOf l = z) (hn : zerosOf l = n) (hz1 : 1 ≤ z) (he : 817403332367745024 / z = e) (he2 : e ≤ 160) (hn0 : 0 < n) (hn1 : n ≤ 64)
    (hfew : w.cell? ⟨0, n, none⟩ = some (.int .u16 (r : Int))) (hrr : r < 65536) (hgl : 0 < w.heap.size) :
    Calls Tryd.prog 15 #[.agg (bv l).toArray] w fun e w' => e = .returned (.int .u64 (r : Int)) ∧ Ext w w' := by
  have h0 := Lib.hid (RowB.new (w := w) rfl 32 _ rfl hl)
  have HE := Lib.hid he; clear he
  have hrt := Lib.hid (fun w => hright_of l w hl hb)
  go_enter Tryd.func15, Tryd.ntmps15
  go_wp2_with (first
    | (refine wpList_build32 rfl rfl ?_)
    | (refine wpList_wanted rfl fun K hK => wp_load32 _ rfl rfl h0.out (hK _ _ ?_))
    | (refine wpList_wanted rfl fun K hK => wp_eq32 (m := zeros64) _ _ _ rfl rfl rfl hl zeros64_len hb zeros64_byte (hK _ _ ?_); rw [decide_eq_false hne])
    | (go_at_call 9; refine (hrt.out _).mono ?_; rintro e w1 ⟨rfl, hb1⟩; rw [hr]; have h1 := Lib.hid (RowB.ext hb1 h0.out); have hE1 : Ext w w1 := Ext.trans ((Ext.refl w).alloc _) hb1)
    | (refine wpList_wanted rfl fun K hK => wp_load30 _ rfl rfl h1.out (hK _ _ ?_)))
  have HNE := Lib.hid hne; have HRR := Lib.hid hr; clear hne hr hrt h0
  go_loopw [3, 4, 18] (fun x y u wr => ∃ i : Nat, u = .int .i64 (i : Int) ∧ x = .int .u64 ((zOf (l.take i) : Nat) : Int) ∧ y = .int .i64 ((zerosOf (l.take i) : Nat) : Int) ∧ i ≤ 64 ∧ Ext w wr) (fun _ _ u _ => 64 - (intOf u).toNat)
  case atStart => exact ⟨0, rfl, rfl, rfl, by omega, hE1⟩
  case round =>
    rename_i hrel
    obtain ⟨i, rfl, rfl, rfl, hi, hE⟩ := hrel
    by_cases hlt : i < 64
    · have hlt' : (i : Int) < 64 := by omega
      have hix : i < l.length := by omega
      have hw : wrap64 ((i : Int) + 1) = (i : Int) + 1 := by unfold wrap64; omega
      have hcell : (bv l).toArray[i]? = some (.int .u8 ((l[i] : Nat) : Int)) := by simp [bv, hix]
      have hby := hb l[i] (List.getElem_mem hix)
      have b1 := zOf_take l i hi
      have b2 := zerosOf_take l i hi
      obtain ⟨m, hm⟩ : ∃ m, m = l[i] := ⟨_, rfl⟩
      have s1 := zOf_next l i m hix hm
      have s2 := zerosOf_next l i m hix hm
      rw [← hm] at hcell hby
      clear hm
      generalize (bv l).toArray = A at *
      generalize zOf (l.take i) = zz at *
      generalize zerosOf (l.take i) = nn at *
      have S1 := Lib.hid s1; have S2 := Lib.hid s2; clear s1 s2
      by_cases h0 : m = 0
      · have h48 : m ≤ 48 := by omega
        have h48' : (m : Int) ≤ 48 := by omega
        have H0 := Lib.hid h0
        have hp : 2 ^ (48 - m) ≤ 281474976710656 := by
          have : 2 ^ (48 - m) ≤ 2 ^ 48 := Nat.pow_le_pow_right (by omega) (by omega)
          omega
        have HPW := Lib.hid hp; clear hp h0
        go_wp2_with (first | (refine wpList_at30 rfl _ _ rfl rfl rfl hlt hcell ?_) | (refine wpList_is0 rfl _ _ rfl rfl (decide_eq_true H0.out) ?_))
        refine ⟨⟨i + 1, by simp, congrArg (Value.int .u64) ?_, congrArg (Value.int .i64) ?_, by omega, hE⟩, by simp [intOf]; omega⟩
        · rw [S1.out, if_pos h48]
          have hp := HPW.out
          have hc : ((2 : Int) ^ (48 - m)) = ((2 ^ (48 - m) : Nat) : Int) := by simp
          rw [hc]
          generalize 2 ^ (48 - m) = pw at *
          rw [u64_wrap, u64_wrap]; omega
        · rw [S2.out, if_pos H0.out]; exact (Int.natCast_add nn 1).symm
      · have h0' : ¬ ((m : Int) = 0) := by omega
        by_cases h48 : m ≤ 48
        · have h48' : (m : Int) ≤ 48 := by omega
          have hp : 2 ^ (48 - m) ≤ 281474976710656 := by
            have : 2 ^ (48 - m) ≤ 2 ^ 48 := Nat.pow_le_pow_right (by omega) (by omega)
            omega
          have HPW := Lib.hid hp; clear hp
          go_wp2_with (refine wpList_at30 rfl _ _ rfl rfl rfl hlt hcell ?_)
          refine ⟨⟨i + 1, by simp, congrArg (Value.int .u64) ?_, congrArg (Value.int .i64) ?_, by omega, hE⟩, by simp [intOf]; omega⟩
          · rw [S1.out, if_pos h48]
            have hp := HPW.out
            have hc : ((2 : Int) ^ (48 - m)) = ((2 ^ (48 - m) : Nat) : Int) := by simp
            rw [hc]
            generalize 2 ^ (48 - m) = pw at *
            rw [u64_wrap, u64_wrap]; omega
          · rw [S2.out, if_neg h0]
        · have h48' : ¬ ((m : Int) ≤ 48) := by omega
          go_wp2_with (refine wpList_at30 rfl _ _ rfl rfl rfl hlt hcell ?_)
          refine ⟨⟨i + 1, by simp, congrArg (Value.int .u64) ?_, congrArg (Value.int .i64) ?_, by omega, hE⟩, by simp [intOf]; omega⟩
          · rw [S1.out, if_neg h48]
          · rw [S2.out, if_neg h0]
    · have hlt' : ¬ ((i : Int) < 64) := by omega
      obtain rfl : i = 64 := by omega
      rw [List.take_of_length_le (by omega), hz, hn]
      have hq : (817403332367745024 : Int) / (z : Int) = (e : Int) := by rw [← HE.out]; rfl
      obtain ⟨fc, ff, fl⟩ := hE.at_ 0 hgl
      have hmx : max (z : Int) 1 = (z : Int) := by omega
      have he3 : ¬ ((160 : Int) < (e : Int)) := by omega
      have hn3 : ¬ ((n : Int) = 0) := by omega
      have hn4 : ((n : Int) == 0) = false := by simp; omega
      go_wp2_with (refine wpList_idx59 rfl _ _ rfl rfl rfl (by omega) ?_)
      all_goals go_ret
      all_goals exact ⟨rfl, hE⟩
end Go.Proofs.YtlcdjaclahhdnaaDoor
