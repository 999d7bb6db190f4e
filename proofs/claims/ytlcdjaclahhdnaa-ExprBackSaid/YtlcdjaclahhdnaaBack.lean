/- The call of the law ValueBack: true, whatever the value and the bytes behind it. -/
import Derived.Test.YtlcdjaclahhdnaaTake
import Derived.Test.YtlcdjaclahhdnaaWorks4
import Derived.Test.YtlcdjaclahhdnaaLaw4
import Derived.Deep.RegionHeld3
import Derived.Deep.DeepCutAuto
namespace Go.Proofs.Ytlcdjaclahhdnaa
open Go.RowKit
set_option linter.unusedSimpArgs false
set_option linter.unusedVariables false

/-- A slice that holds bytes, wherever it lies. -/
def BytesIn (w : World) (x : Value) (l : List Nat) : Prop :=
  (x = .slice none 0 0 ∧ l = []) ∨ ∃ ad c, x = .slice (some ad) l.length c ∧ l.length ≤ c ∧ ∀ j u, (bv l)[j]? = some u → w.cell? (ad.add j) = some u
theorem cell_ltB {w : World} {p : Addr} {u : Value} (h : w.cell? p = some u) : p.block < w.heap.size := by
  rcases Nat.lt_or_ge p.block w.heap.size with hl | hl
  · exact hl
  · simp [World.cell?, Array.getElem?_eq_none hl] at h
theorem BytesIn.ext {w w' : World} {x : Value} {l : List Nat} (he : Ext w w') (h : BytesIn w x l) : BytesIn w' x l := by
  rcases h with h | ⟨ad, c, h1, h2, h4⟩
  · exact .inl h
  · exact .inr ⟨ad, c, h1, h2, fun j u hu => (he.cell (cell_ltB (h4 j u hu))).trans (h4 j u hu)⟩
/-- 'append(b, c...)', both slices of bytes. -/
theorem wpList_bytes {w : World} {ops : Array Oper} {rest : List Oper} {o : Oper} {a : Act} {Q : Exit → Act → World → Prop} (hgd : o.guard = none) (s x : Operand)
    (ho : o.op = .call { callee := .builtin .append, args := #[s, x], argTypes := #[28, 28] })
    {base : Nat} {v xv : Value} {l m : List Nat} (hs : a.eval s = v) (hown : OwnB w base v l) (hx : a.eval x = xv) (hm : BytesIn w xv m) (hl : l.length ≤ 1000000000) (hml : m.length ≤ 1000000000) (hbase : base ≤ w.heap.size)
    (h : ∀ v' w', OwnB w' base v' (l ++ m) → Wr 5 base w w' → wpList Try.prog ops Q rest (a.put o.dst v') w') : wpList Try.prog ops Q (o :: rest) a w := by
  obtain ⟨i, hi1, hi2⟩ := Option.map_eq_some_iff.1 info_u8
  simp only [Prod.mk.injEq] at hi2
  rcases hm with ⟨rfl, rfl⟩ | ⟨ad, c, rfl, hc, hcell⟩
  · refine wpList_plain hgd fun K hK => ?_
    have hr := run_append_owned_none (P := Try.prog) w base 28 o.type 5 i 1 Try.underlying28 hi1 v l.length (bv l) hown
    unfold Oper.wp execOp
    simp only [ho, resolve, invoke, builtin, Sem.run_bind, Sem.run_pure, Result.andThen_ok, List.map_toArray, List.map_cons, List.map_nil, hs, hx, hr]
    exact hK _ _ (h v w (by simpa using hown) (Wr.refl _ _ _))
  · refine wpList_append_own w hgd s x 28 ho base 5 i (.int .u8 0) 1 1 Try.underlying28 hi1 hi2.1 hi2.2.1 hi2.2.2 rfl (by omega) v l.length (bv l) hs hown ad m.length c (bv m) hx (by simp [bv_length]) hcell (bv_one _) (by unfold maxLen; omega) (by omega) hbase fun v' w' ho' hg' _ => h v' w' ?_ (Wr.grown hown hg')
    unfold OwnB
    rw [bv_append, List.length_append]
    exact ho'
theorem OwnB.some {w : World} {base : Nat} {v : Value} {l : List Nat} (h : OwnB w base v l) (hl : l ≠ []) :
    ∃ g c, v = .slice (some ⟨g, 0, none⟩) l.length c ∧ base ≤ g ∧ g < w.heap.size ∧ l.length ≤ c ∧ At w g 0 (bv l) := by
  rcases h.2 with ⟨rfl, h0⟩ | ⟨g, cap, cur, rfl, hb, hh, hc, _⟩
  · exact absurd (List.eq_nil_of_length_eq_zero h0) hl
  · refine ⟨g, cap, rfl, hb, (Array.getElem?_eq_some_iff.1 hh).1, hc, At.of_get fun j u hu => ?_⟩
    have := World.ownsRow.cells h (g := g) rfl j u hu
    rwa [add_at] at this
theorem putV_ne (v : Val) : putV v ≠ [] := by rw [putV_cons]; simp

set_option maxHeartbeats 4000000 in
set_option maxRecDepth 100000 in
theorem back_walk (v : Val) (x : Value) (l : List Nat) (w : World) (hv : v.Ok) (hx : BytesIn w x l) :
    Calls Try.prog 5 #[.agg #[.int .i64 v.kind, .int .i64 v.int, .float .f64 v.flt, .string v.text], x] w
      fun e w' => e = .returned (.bool true) ∧ Ext w w' := by
  obtain ⟨oa, n, c, rfl, hn⟩ : ∃ oa n c, x = .slice oa n c ∧ n = l.length := by
    rcases hx with ⟨rfl, rfl⟩ | ⟨ad, c, rfl, _⟩
    · exact ⟨none, 0, 0, rfl, rfl⟩
    · exact ⟨some ad, _, c, rfl, rfl⟩
  subst hn
  have HX := Lib.hid hx; clear hx
  have hflt := hv.flt
  have hpf := Val.plain_flat hv
  have HV := Lib.hid hv
  have hrx : ∀ w, Calls Try.prog 27 #[v.plain.enc] w fun e w' => e = .returned (.bool true) ∧ Ext w w' := fun w => by
    have := right_of v.plain w hpf.ok.flt
    rw [hpf.right] at this; exact this
  have hrv : ∀ w, Calls Try.prog 27 #[v.enc] w fun e w' => e = .returned (.bool v.right) ∧ Ext w w' := fun w => right_of v w hflt
  have hsm : ∀ w, Calls Try.prog 24 #[v.plain.enc, v.enc] w fun e w' => e = .returned (.bool true) ∧ Ext w w' := fun w => by
    have := same_of v.plain v w hpf.ok.flt hflt
    rw [same_plain hv] at this; exact this
  unfold Val.enc at hrx hrv hsm
  have HRX := Lib.hid hrx; have HRV := Lib.hid hrv; have HSM := Lib.hid hsm
  have hlen := putV_length hv
  have hkind : v.right = false → v.plain.kind = 0 := fun h => by unfold Val.plain; rw [if_neg (by simp [h])]; rfl
  clear hv hflt hpf hrx hrv hsm
  by_cases h2000 : (2000 : Int) < (l.length : Int)
  · go_enter Try.func5, Try.ntmps5
    go_wp2_with (go_at_call 21; refine (works4 _).mono ?_; rintro e w' ⟨rfl, hb⟩; obtain ⟨c0, f0, l0⟩ := hb.at_ w.heap.size (by first | omega | (simp; done) | (simp; omega) | (simp at *; omega)))
    go_ret
    refine ⟨rfl, ?_⟩
    repeat (first | (with_reducible exact Ext.refl _) | (with_reducible refine Ext.set_ ?_ _ ?_; focus (first | (simp; done) | (simp; omega) | (simp at *; omega))) | (with_reducible refine Ext.alloc ?_ _) | (with_reducible refine Ext.drew ?_) | (with_reducible refine Ext.drewN ?_ _) | (with_reducible refine Ext.trans ?_ (by assumption)))
  · have hl2 : l.length ≤ 2000 := by omega
    go_enter Try.func5, Try.ntmps5
    go_wp2_with (first
      | (go_at_call 21; refine (works4 _).mono ?_; rintro e w' ⟨rfl, hb⟩; obtain ⟨c0, f0, l0⟩ := hb.at_ w.heap.size (by first | omega | (simp; done) | (simp; omega) | (simp at *; omega)); have hE0 : Ext w w' := by repeat (first | (with_reducible exact Ext.refl _) | (with_reducible refine Ext.set_ ?_ _ ?_; focus (first | (simp; done) | (simp; omega) | (simp at *; omega))) | (with_reducible refine Ext.alloc ?_ _) | (with_reducible refine Ext.drew ?_) | (with_reducible refine Ext.drewN ?_ _) | (with_reducible refine Ext.trans ?_ (by assumption))))
      | (go_at_call 23; refine (putV_of (.slice none 0 0) [] v w'.heap.size _ (OwnB.nil _ _) ?_ ?_ HV.out).mono ?_; (focus (first | omega | (simp; done))); (focus (simp; done)); rintro e w1 ⟨v1, rfl, ho1, hw1⟩; rw [List.nil_append] at ho1; have hs1 := hw1.size; have hE1 : Ext w w1 := hE0.trans (hw1.to_ext (Nat.le_refl _)))
      | (at_builtin; refine wpList_bytes (l := putV v) (m := l) (base := w'.heap.size) rfl (.tmp 14) (.tmp 15) rfl rfl ho1 rfl ?_ ?_ ?_ ?_ ?_; (focus exact HX.out.ext hE1); (focus omega); (focus omega); (focus omega); intro v2 w2 ho2 hw2; obtain ⟨g, cc, rfl, hg1, hg2, hgc, hga⟩ := ho2.some (by simp [putV_ne]); have hb := (hw1.trans hw2).to_ext (Nat.le_refl _); have HGA := Lib.hid hga; clear hga; have hs2 := hb.size; obtain ⟨c0, f0, l0⟩ := hb.at_ w.heap.size (by first | omega | (simp; done) | (simp; omega) | (simp at *; omega)))
      | (go_at_call 16; refine (read_of g _ cc 0 _ (putV v ++ l) hg2 List.length_append (List.length_append ▸ hgc) HGA.out).mono ?_; rintro e w3 ⟨rfl, hr3, hb⟩; obtain ⟨lr3, lg3, ne3⟩ := hr3.lt; have HR3 := Lib.hid hr3; clear hr3; obtain ⟨c0, f0, l0⟩ := hb.at_ w.heap.size (by first | omega | (simp; done) | (simp; omega) | (simp at *; omega)); have hE3 : Ext w w3 := by repeat (first | (with_reducible exact Ext.refl _) | (with_reducible refine Ext.set_ ?_ _ ?_; focus (first | (simp; done) | (simp; omega) | (simp at *; omega))) | (with_reducible refine Ext.alloc ?_ _) | (with_reducible refine Ext.drew ?_) | (with_reducible refine Ext.drewN ?_ _) | (with_reducible refine Ext.trans ?_ (by assumption))))
      | (go_at_call 26; refine (takeV_rd _ g v l _ HV.out HR3.out).mono ?_; rintro e w4 ⟨rfl, hr4, hb4⟩; have hs4 := hb4.size; have HR4 := Lib.hid hr4; clear hr4; obtain ⟨c0, f0, l0⟩ := hb4.at_ w.heap.size ⟨(by first | omega | (simp; done) | (simp; omega) | (simp at *; omega)), by omega⟩; have hE4 : Ext w w4 := But.to_ext hE3 hb4 (by omega))
      | (go_at_call 20; refine (left_of _ g l _ ?_).mono ?_; (focus (have hr4 := HR4.out; (repeat (first | assumption | (with_reducible refine Rd.set ?_ ?_ ?_; (focus (first | omega | (simp; omega) | (simp at *; omega))); (focus (first | omega | (simp; omega) | (simp at *; omega)))) | (with_reducible refine Rd.alloc _ ?_) | (with_reducible refine Rd.drew ?_) | (with_reducible refine Rd.ext (by assumption) ?_))); done)); rintro e w5 ⟨rfl, rfl⟩)
      | (go_at_call 27; (first | (with_reducible refine (HRX.out _).mono ?_) | (with_reducible refine (HRV.out _).mono ?_)); rintro e w6 ⟨rfl, hb⟩; obtain ⟨c0, f0, l0⟩ := hb.at_ w.heap.size (by first | omega | (simp; done) | (simp; omega) | (simp at *; omega)); obtain ⟨c1, f1, l1⟩ := hb.at_ w4.heap.size (by first | omega | (simp; done) | (simp; omega) | (simp at *; omega)))
      | (go_at_call 24; (with_reducible refine (HSM.out _).mono ?_); rintro e w7 ⟨rfl, hb⟩; obtain ⟨c0, f0, l0⟩ := hb.at_ w.heap.size (by first | omega | (simp; done) | (simp; omega) | (simp at *; omega)); obtain ⟨c1, f1, l1⟩ := hb.at_ w4.heap.size (by first | omega | (simp; done) | (simp; omega) | (simp at *; omega))))
    all_goals go_ret
    all_goals refine ⟨?_, ?_⟩
    case refine_1 => rfl
    case refine_1 => rfl
    all_goals clear hE0 hE1 hE3
    all_goals (repeat (first | (with_reducible exact Ext.refl _) | (with_reducible refine Ext.set_ ?_ _ ?_; focus (first | (simp; done) | (simp; omega) | (simp at *; omega))) | (with_reducible refine Ext.alloc ?_ _) | (with_reducible refine Ext.drew ?_) | (with_reducible refine Ext.drewN ?_ _) | (with_reducible refine Ext.trans ?_ (by assumption))))
end Go.Proofs.Ytlcdjaclahhdnaa
