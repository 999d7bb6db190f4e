/- The call of hll.Add. -/
import Derived.Test.YtlcdjaclahhdnaaDoorHll3
import Derived.Test.YtlcdjaclahhdnaaDoorLen
namespace Go.Proofs.YtlcdjaclahhdnaaDoor
open Go.RowKit
set_option linter.unusedSimpArgs false
set_option linter.unusedVariables false

theorem xor_range (a b : Int) : 0 ≤ bits BinOp.xor IntKind.u64 a b ∧ bits BinOp.xor IntKind.u64 a b < 18446744073709551616 := by
  have h : ∃ n, bits BinOp.xor IntKind.u64 a b = IntKind.u64.wrap n := ⟨_, rfl⟩
  obtain ⟨n, hn⟩ := h
  rw [hn, u64_wrap]
  omega
theorem hashV_range (v : Val) : 0 ≤ hashV v ∧ hashV v < 18446744073709551616 := xor_range _ _

def atV (v : Val) : Nat := (hashV v / 288230376151711744).toNat
def rankV (v : Val) : Nat := min (65 - Lib.bitLen (IntKind.u64.wrap (hashV v * 64)).toNat) 59
theorem atV_lt (v : Val) : atV v < 64 := by
  have := hashV_range v
  unfold atV; omega
theorem rankV_le (v : Val) : rankV v ≤ 59 := by unfold rankV; omega
/-- A register raised. -/
def raise (l : List Nat) (i m : Nat) : List Nat := l.set i (max (l.getD i 0) m)
def addR (l : List Nat) (v : Val) : List Nat := raise l (atV v) (rankV v)
theorem addR_length (l : List Nat) (v : Val) : (addR l v).length = l.length := by simp [addR, raise]

theorem addRow {w : World} {g : Nat} {l A : List Nat} {q p rk : Nat} {X : Int} (h : RowB w g l) (hq : q < 64) (hA : A = raise l q rk) (hp : l.getD q 0 = p) (hX : X = ((max p rk : Nat) : Int)) :
    RowB (w.setCell ⟨g, q, none⟩ (.int .u8 X)) g A := by
  subst hX
  rw [hA, raise, hp]
  exact h.set q _ hq
theorem idx30 (g q : Nat) (k : IntKind) (hq : q < 64) (w : World) : (Instr.indexAt 30 (.pointer (some ⟨g, 0, none⟩)) (.int k (q : Int))).run Tryd.prog w = .ok (.pointer (some ⟨g, q, none⟩)) w := by
  have h1 : (0 : Int) ≤ (q : Int) ∧ (q : Int) < 64 := by omega
  have h2 : (Tryd.prog.info? 5).map (·.size) = some 1 := by kernel_rfl
  obtain ⟨f, hf1, hf2⟩ := Option.map_eq_some_iff.1 h2
  have h3 : (⟨g, 0, none⟩ : Addr).add q = ⟨g, q, none⟩ := by rw [add_at, Nat.zero_add]
  simp [Instr.indexAt, run_underlying Tryd.underlying30, Instr.sureAddr, asIntOf, h1, sizeOf, typeInfo, hf1, hf2, h3]
  omega
theorem wpList_idx30 {w : World} {ops : Array Oper} {rest : List Oper} {o : Oper} {a : Act} {Q : Exit → Act → World → Prop} (hgd : o.guard = none) (x y : Operand) (ho : o.op = .indexAddr 30 x y) {g q : Nat} {k : IntKind}
    (hx : a.eval x = .pointer (some ⟨g, 0, none⟩)) (hy : a.eval y = .int k (q : Int)) (hq : q < 64) (h : wpList Tryd.prog ops Q rest (a.put o.dst (.pointer (some ⟨g, q, none⟩))) w) : wpList Tryd.prog ops Q (o :: rest) a w := by
  refine wpList_plain hgd fun K hK => ?_
  unfold Oper.wp execOp
  simp only [ho, hx, hy, Sem.run_bind, Sem.run_pure, Result.andThen_ok, idx30 g q k hq]
  exact hK _ _ h
theorem zerosB (w : World) (t : TypeId) (g : Nat) (hg : g = w.heap.size) : RowB (w.alloc (.cells (bv (List.replicate 64 0)).toArray t)) g (List.replicate 64 0) := RowB.new hg t _ rfl (by decide)

set_option maxRecDepth 100000 in
set_option maxHeartbeats 2000000 in
theorem add_of (l : List Nat) (v : Val) (w : World) (hl : l.length = 64) (hb : ∀ x ∈ l, x < 256) (hv : v.Ok) :
    Calls Tryd.prog 10 #[.agg (bv l).toArray, .agg #[.int .i64 v.kind, .int .i64 v.int, .float .f64 v.flt, .string v.text]] w fun e w' => e = .returned (.agg (bv (addR l v)).toArray) ∧ Ext w w' := by
  have hAl := addR_length l v
  have h0 := Lib.hid (RowB.new (w := w) rfl 32 _ rfl hl)
  have hh := Lib.hid (fun w => hash_of v w hv)
  obtain ⟨hr1, hr2⟩ := hashV_range v
  have hat : hashV v / 288230376151711744 = (atV v : Int) := by unfold atV; omega
  have hatl := atV_lt v
  have hrk := rankV_le v
  have hx : 0 ≤ IntKind.u64.wrap (hashV v * 64) ∧ IntKind.u64.wrap (hashV v * 64) ≤ 18446744073709551615 := by rw [u64_wrap]; omega
  have hlz := Lib.hid (fun w => bits_LeadingZeros64 (IntKind.u64.wrap (hashV v * 64)) w hx.1 hx.2)
  have hbl := bitLen_le64 _ hx.1 hx.2
  have hrv : rankV v = min (65 - Lib.bitLen (IntKind.u64.wrap (hashV v * 64)).toNat) 59 := rfl
  have HADD := Lib.hid (show addR l v = raise l (atV v) (rankV v) from rfl)
  clear hx
  generalize rankV v = rk at *
  generalize atV v = q at *
  generalize Lib.bitLen (IntKind.u64.wrap (hashV v * 64)).toNat = n at *
  obtain ⟨z, hz⟩ : ∃ z : Int, z = 64 - (n : Int) := ⟨_, rfl⟩
  rw [← hz] at hlz
  have hrv2 : (rk : Int) = min (z + 1) 59 := by omega
  have hz1 : 0 ≤ z := by omega
  have hz2 : z ≤ 64 := by omega
  have HRV := Lib.hid hrv2; clear hrv hrv2 hz hbl
  have hql : q < l.length := by omega
  obtain ⟨p, hp⟩ : ∃ p, p = l[q] := ⟨_, rfl⟩
  have hpb : p < 256 := by rw [hp]; exact hb _ (List.getElem_mem hql)
  have hpd : l.getD q 0 = p := by rw [hp]; simp [hql]
  have HP := Lib.hid hp; clear hp
  have HPD := Lib.hid hpd; clear hpd
  go_enter Tryd.func10, Tryd.ntmps10
  go_wp2_with (first
    | (refine wpList_idx30 rfl _ _ rfl rfl rfl hatl ?_)
    | (go_at_call 16; go_loud (refine (hh.out _).mono ?_; rintro e w1 ⟨rfl, hb1⟩; have h1 := RowB.ext hb1 ((h0.out.alloc _).alloc _); have hz : RowB w1 (w.heap.size + 1 + 1) _ := RowB.ext hb1 (RowB.new (l := List.replicate 64 0) (by simp) _ _ rfl (by decide)); have hcell : w1.cell? ⟨w.heap.size, q, none⟩ = some (.int .u8 (p : Int)) := HP.out ▸ h1.cell q hatl; have hfr := h1.free q; have hlt := h1.lt; have hEw : Ext w w1 := Ext.trans (((Ext.refl w).alloc _).alloc _ |>.alloc _) hb1; have H1 := Lib.hid h1; clear h1; have HZ := Lib.hid hz; clear hz))
    | (go_at_call 20; refine (hlz.out _).mono ?_; rintro e w2 ⟨rfl, rfl⟩)
    | (refine wpList_load32 (l := addR l v) rfl _ rfl rfl ?_ ?_; (focus (refine addRow H1.out hatl HADD.out HPD.out ?_; have h9 := HRV.out; rw [← h9]; omega)))
    | (refine wpList_store32 rfl _ _ rfl rfl rfl (hAl.trans hl) (HZ.out.other ?_) ?_; (focus (simp; omega)); intro w3 hr3 hb3))
  all_goals
    have hr := hr3.at_
    refine back_cell rfl (bv (addR l v)) rfl (by rw [bv_length, hAl, hl]; exact agg32) rfl hr ⟨rfl, ?_⟩
    refine But.to_ext ?_ hb3 (by omega)
    repeat (first | (with_reducible exact Ext.refl _) | (with_reducible refine Ext.set_ ?_ _ ?_; focus (first | (simp; done) | (simp; omega) | (simp at *; omega))) | (with_reducible refine Ext.alloc ?_ _) | (with_reducible refine Ext.drew ?_) | (with_reducible refine Ext.drewN ?_ _) | (with_reducible refine Ext.trans ?_ (by assumption)))
end Go.Proofs.YtlcdjaclahhdnaaDoor
