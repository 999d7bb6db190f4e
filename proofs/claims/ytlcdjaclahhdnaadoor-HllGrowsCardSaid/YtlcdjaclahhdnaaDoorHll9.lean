/- The example of layer 17: the call of works. -/
import Derived.Test.YtlcdjaclahhdnaaDoorHll8
namespace Go.Proofs.YtlcdjaclahhdnaaDoor
open Go.RowKit
set_option linter.unusedSimpArgs false
set_option linter.unusedVariables false

theorem field32 (k : List Nat) (hk : k.length = 64) (w : World) : (Instr.field 32 (.agg (bv k).toArray) 0).run Tryd.prog w = .ok (.agg (bv k).toArray) w := by
  have h := part30 k hk w
  simp [Instr.field, run_underlying Tryd.underlying32, asAgg, h]
theorem wp_field32 {w : World} {o : Oper} {a : Act} {K : Act → World → Prop} {Q : Exit → Act → World → Prop} {l : List Nat} (x : Operand) (ho : o.op = .field 32 x 0) (hx : a.eval x = .agg (bv l).toArray) (hl : l.length = 64)
    (h : K (a.put o.dst (.agg (bv l).toArray)) w) : o.wp Tryd.prog a w K Q := by
  unfold Oper.wp execOp
  simp only [ho, hx, Sem.run_bind, Sem.run_pure, Result.andThen_ok, field32 l hl]
  exact h

attribute [local irreducible] hashV addR

set_option maxRecDepth 100000 in
set_option maxHeartbeats 4000000 in
theorem works17_of (w : World) (hfew : w.cell? ⟨0, 63, none⟩ = some (.int .u16 1)) (hgl : 0 < w.heap.size) :
    Calls Tryd.prog 5 #[] w fun e w' => e = .returned (.bool true) ∧ Ext w w' := by
  have hn1 := Lib.hid (fun w => number17_of 1 w)
  have hn2 := Lib.hid (fun w => number17_of 2 w)
  have ha := Lib.hid (fun w => add_of zeros64 one w zeros64_len zeros64_byte one_ok)
  have hh1 : Hid (∀ w, Calls Tryd.prog 16 #[.agg #[.int .i64 2, .int .i64 1, .float .f64 0, .string ⟨#[]⟩]] w fun e w' => e = .returned (.int .u64 (hashV one)) ∧ Ext w w') := Lib.hid (fun w => hash_of one w one_ok)
  have hh2 : Hid (∀ w, Calls Tryd.prog 16 #[.agg #[.int .i64 2, .int .i64 2, .float .f64 0, .string ⟨#[]⟩]] w fun e w' => e = .returned (.int .u64 (hashV two)) ∧ Ext w w') := Lib.hid (fun w => hash_of two w two_ok)
  have hne : (hashV one != hashV two) = true := by simpa using one_two
  have hl : (addR zeros64 one).length = 64 := (addR_length _ _).trans zeros64_len
  have he : ∀ u : World, Ext w u → Calls Tryd.prog 15 #[.agg (bv (addR zeros64 one)).toArray] u fun e w' => e = .returned (.int .u64 1) ∧ Ext u w' := fun u hu => by
    obtain ⟨c, _, l⟩ := hu.at_ 0 hgl
    exact estimate_of (addR zeros64 one) u hl one_byte one_ne one_right _ 63 46 1 rfl one_n one_z1 one_z (by decide) (by decide) (by decide) ((c 63).trans hfew) (by decide) l
  have HE := Lib.hid he; clear he hfew
  go_enter Tryd.func5, Tryd.ntmps5
  go_wp2_with (first
    | (refine wpList_build32 rfl rfl ?_)
    | (go_at_call 14; (first | (with_reducible refine (hn1.out _).mono ?_) | (with_reducible refine (hn2.out _).mono ?_)); rintro e w1 ⟨rfl, hb⟩; (first | (have HR5 := Lib.hid (RowB.ext hb HR5.out)) | skip); (first | (have hE5 : Ext w w1 := Ext.trans hE5 hb) | skip))
    | (go_at_call 10; refine (ha.out _).mono ?_; rintro e w2 ⟨rfl, hb⟩; have hE2 : Ext w w2 := by repeat (first | (with_reducible exact Ext.refl _) | (with_reducible refine Ext.set_ ?_ _ ?_; focus (first | (simp; done) | (simp; omega) | (simp at *; omega))) | (with_reducible refine Ext.alloc ?_ _) | (with_reducible refine Ext.drew ?_) | (with_reducible refine Ext.drewN ?_ _) | (with_reducible refine Ext.trans ?_ (by assumption))))
    | (refine wpList_store32 rfl _ _ rfl rfl rfl hl (RowB.new (l := List.replicate 64 0) rfl _ _ rfl (by decide)) ?_; intro w3 hr3 hb3; have HR3 := Lib.hid hr3; have hE3 : Ext w w3 := But.to_ext (hE2.alloc _) hb3 hE2.size; clear hr3)
    | (go_at_call 15; (with_reducible refine (estimate0_of _).mono ?_); rintro e w4 ⟨rfl, hb⟩; have HR4 := Lib.hid (RowB.ext hb HR3.out); have hE4 : Ext w w4 := Ext.trans hE3 hb)
    | (go_at_call 15; refine (HE.out _ hE4).mono ?_; rintro e w5 ⟨rfl, hb⟩; have HR5 := Lib.hid (RowB.ext hb HR4.out); have hE5 : Ext w w5 := Ext.trans hE4 hb)
    | (go_at_call 16; (first | (with_reducible refine (hh1.out _).mono ?_) | (with_reducible refine (hh2.out _).mono ?_)); rintro e w6 ⟨rfl, hb⟩; have HR5 := Lib.hid (RowB.ext hb HR5.out); have hE5 : Ext w w6 := Ext.trans hE5 hb)
    | (refine wpList_wanted rfl fun K hK => wp_load32 _ rfl rfl HR4.out (hK _ _ ?_))
    | (refine wpList_wanted rfl fun K hK => wp_load30 _ rfl rfl HR5.out (hK _ _ ?_))
    | (refine wpList_wanted rfl fun K hK => wp_field32 (l := zeros64) _ rfl rfl zeros64_len (hK _ _ ?_))
    | (refine wpList_wanted rfl fun K hK => wp_neq30 (l := addR zeros64 one) (m := zeros64) _ _ _ rfl rfl rfl hl zeros64_len one_byte zeros64_byte (hK _ _ ?_); rw [decide_eq_false one_ne]))
  go_ret
  exact ⟨rfl, hE5⟩
end Go.Proofs.YtlcdjaclahhdnaaDoor
