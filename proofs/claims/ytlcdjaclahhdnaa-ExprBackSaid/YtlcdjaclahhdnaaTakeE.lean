/- The calls of expr.Take$1 and expr.Take, where the bytes of an expression lie ahead. -/
import Derived.Test.YtlcdjaclahhdnaaTkE
namespace Go.Proofs.Ytlcdjaclahhdnaa
open Go.RowKit
set_option linter.unusedSimpArgs false
set_option linter.unusedVariables false

theorem nameW {P : Program} {c : Code} {Q : Exit → Act → World → Prop} {a : Act} {w : World} (F : World → Prop) (hF : F w) (h : ∀ u, F u → c.wp P Q a u) : c.wp P Q a w := h w hF
theorem exc_one {k r c : Int} {v : Val} {A : Option Addr} {n cap : Nat} : ∀ u ∈ exCells k r c v (.slice A n cap), u.oneCell' = true := by
  intro u hu
  simp only [exCells, List.mem_cons, List.not_mem_nil, or_false] at hu
  rcases hu with rfl | rfl | rfl | rfl | rfl | rfl | rfl | rfl <;> rfl
set_option maxRecDepth 100000 in
set_option maxHeartbeats 1000000 in
/-- expr.guarded around expr.Take's closure, as guarded_take; the closure is called in a world that is greater. -/
theorem guarded_take2 (M : Nat → Prop) (cap : Array Value) (w : World) (S : World → Prop) (hM : ∀ k, M k → k < w.heap.size)
    (hcall : Hid (∀ w', Ext w w' → w.heap.size < w'.heap.size → Calls Try.prog 59 cap w' fun e u => e = .returned (.tuple #[]) ∧ ButS M w' u ∧ S u)) :
    Calls Try.prog 58 #[.func (.func 59) #[] cap] w fun e w' => e = .returned (.int .i64 0) ∧ (∃ u, S u ∧ But w.heap.size u w') ∧ ButS M w w' := by
  have hmf : ∀ (fn : Fn) (first cap : Array Value) (w : World), (Instr.makeFunc fn first cap).run Try.prog w = .ok (.func fn first cap) w := fun _ _ _ _ => rfl
  have h0 : BoxAt (w.alloc (.cells #[.int .i64 0] 35)) w.heap.size [.int .i64 0] := BoxAt.new rfl rfl
  have H0 := Lib.hid h0; clear h0
  have hng : ¬ M w.heap.size := fun h => by have := hM _ h; omega
  have HNG := Lib.hid hng; have HM := Lib.hid hM; clear hng hM
  go_enter_defers Try.func58, Try.ntmps58
  go_wp2_with (go_at_call 59; refine (hcall.out _ (by repeat (first | (with_reducible exact Ext.refl _) | (with_reducible refine Ext.set_ ?_ _ ?_; focus (first | (simp; done) | (simp; omega) | (simp at *; omega))) | (with_reducible refine Ext.alloc ?_ _) | (with_reducible refine Ext.drew ?_) | (with_reducible refine Ext.drewN ?_ _) | (with_reducible refine Ext.trans ?_ (by assumption)))) (by simp)).mono ?_; rintro e u ⟨rfl, hb, hs⟩; have HB := Lib.hid (ButS.box hb HNG.out H0.out); have HBU := Lib.hid hb; have HS := Lib.hid hs; obtain ⟨c0, f0, l0⟩ := hb.at_ w.heap.size (by simp) HNG.out; clear hb hs)
  have HB1 := Lib.hid (HB.out.set1 (v := .int .i64 0))
  have hc := HB1.out.cells.1
  refine leaves_cons (f := 111) (args := #[.pointer (some ⟨w.heap.size, 0, none⟩)]) (by simp) (by simp [go_sem]) ?_
  refine (catch_idle w.heap.size _).mono ?_
  rintro e u' w'' ⟨rfl, rfl, rfl⟩
  have h1 : But w.heap.size u (u.setCell ⟨w.heap.size, 0, none⟩ (.int .i64 0)) := But.set_ (p := ⟨w.heap.size, 0, none⟩) (.inr rfl) _ (But.refl _ u)
  have h2 : ButS M w (u.setCell ⟨w.heap.size, 0, none⟩ (.int .i64 0)) := ButS.set_ (p := ⟨w.heap.size, 0, none⟩) (.inl (Nat.le_refl _)) _ ((ButS.of_ext ((Ext.refl w).alloc _)).trans HBU.out)
  have h3 : ∃ x, S x ∧ But w.heap.size x (u.setCell ⟨w.heap.size, 0, none⟩ (.int .i64 0)) := ⟨u, HS.out, h1⟩
  simp [Leaves, settle, results, Try.results58, go_sem, hc, h2, h3]

/-- What lies behind expr.Take's closure. -/
def TakenE (r B ge b : Nat) (e : Ex) (rest : List Nat) (u : World) : Prop :=
  ∃ A n cap, BoxAt u ge (e.cells (.slice A n cap)) ∧ Ex.In (only u (from_ b)) e (.slice A n cap) ∧ Rd u r B rest
theorem TakenE.but {r B ge b g : Nat} {e : Ex} {rest : List Nat} {u w : World} (h : TakenE r B ge b e rest u) (hb : But g u w) (h1 : ge ≠ g) (h2 : g < b) (h3 : r ≠ g) (h4 : B ≠ g) : TakenE r B ge b e rest w := by
  obtain ⟨A, n, cap, q1, q2, q3⟩ := h
  obtain ⟨l1, l2, _⟩ := q3.lt
  exact ⟨A, n, cap, But.box hb h1 q1, q2.from_ext (M := fun k => k = g) (ButS.of_but hb rfl) (fun k hk => by subst hk; exact h2), q3.keep hb.size (hb.at_ r ⟨l1, h3⟩).1 (hb.at_ B ⟨l2, h4⟩).1 (hb.at_ r ⟨l1, h3⟩).2.1⟩
set_option maxRecDepth 100000 in
set_option maxHeartbeats 4000000 in
theorem take1_of (r B tb tv ge b : Nat) (e : Ex) (rest : List Nat) (vs : List Value) (w : World) (hok : e.Oks) (hwf : e.wf = true) (hh : 1 + e.high ≤ 25) (hn : e.nodes ≤ 400) (hrd : Rd w r B (e.put ++ rest))
    (hbt : BoxAt w tb [.pointer (some ⟨r, 0, none⟩), .int .i64 400]) (hbv : w.cell? ⟨tv, 0, none⟩ = some (.pointer (some ⟨tb, 0, none⟩))) (hbe : BoxAt w ge vs) (hvs : vs.length = 8) (nt : tb ≠ r ∧ tb ≠ B) (ng : ge ≠ r ∧ ge ≠ tb ∧ ge ≠ B) (hb : b ≤ w.heap.size) (hgb : ge < b) :
    Calls Try.prog 59 #[.pointer (some ⟨tv, 0, none⟩), .pointer (some ⟨ge, 0, none⟩)] w fun ev u => ev = .returned (.tuple #[]) ∧ ButS (fun k => k = r ∨ k = tb ∨ k = ge) w u ∧ TakenE r B ge b e.plain rest u := by
  have HC : Hid (Calls Try.prog 60 #[.pointer (some ⟨tb, 0, none⟩), .int .i64 1] w fun ev w' => ∃ s, ev = .returned (.agg (e.plain.cells s).toArray) ∧ Ex.In (only w' (from_ w.heap.size)) e.plain s ∧ Rd w' r B rest ∧
      BoxAt w' tb [.pointer (some ⟨r, 0, none⟩), .int .i64 ((400 - e.nodes : Nat) : Int)] ∧ ButS (TkM r tb) w w') := Lib.hid (take_rd r B tb nt e 1 400 rest w hok hwf hh hn (by decide) hrd hbt)
  have HBE := Lib.hid hbe
  have hl := hbe.lt
  clear hok hwf hh hn hrd hbt hbe
  generalize e.plain = f at *
  unfold Ex.cells exCells at *
  go_enter Try.func59, Try.ntmps59
  go_wp2_with (first
    | (go_at_call 60; refine HC.out.mono ?_; rintro ev w1 ⟨s1, rfl, hin, hr1, hx1, hb1⟩; obtain ⟨-, A1, cap1, rfl, -⟩ := (Ex.In.mk_inv hin).2.2.2.2; have HIN := Lib.hid hin; have HR1 := Lib.hid hr1; have HB1 := Lib.hid hb1; clear hin hr1 hx1 hb1)
    | (refine wpList_storeA (vs' := exCells f.kind f.rel f.col f.const (.slice A1 f.kids.length cap1)) exc_one (ButS.box HB1.out (by unfold TkM; omega) HBE.out) size_ex (by rw [hvs]; rfl) rfl (.tmp 1) _ rfl rfl rfl ?_; intro w3 hb1 hb2))
  go_end0
  have h1 := HB1.out
  have h2 : ButS (fun k => k = r ∨ k = tb ∨ k = ge) w w3 := by
    refine ButS.trans ⟨h1.os, h1.tape, h1.output, h1.size, fun k hk hn => h1.block k hk fun h => hn (by rcases h with h | h <;> omega)⟩ (ButS.of_but hb2 (.inr (.inr rfl)))
  refine ⟨rfl, h2, A1, _, cap1, hb1, ?_, ?_⟩
  · exact (Ex.In.of_cells (only_cell fun k hk hp => ⟨by simp only [from_, decide_eq_true_eq] at hp ⊢; omega, rfl⟩) _ _ HIN.out : Ex.In (only w1 (from_ b)) f (.slice A1 f.kids.length cap1)).from_ext (M := fun k => k = ge) (ButS.of_but hb2 rfl) (fun k hk => by subst hk; exact hgb)
  · have q3 := HR1.out
    obtain ⟨l1, l2, -⟩ := q3.lt
    exact q3.keep hb2.size (hb2.at_ r ⟨l1, fun e => ng.1 e.symm⟩).1 (hb2.at_ B ⟨l2, fun e => ng.2.2 e.symm⟩).1 (hb2.at_ r ⟨l1, fun e => ng.1 e.symm⟩).2.1
set_option maxRecDepth 100000 in
set_option maxHeartbeats 4000000 in
theorem take_of_ex (r B : Nat) (e : Ex) (rest : List Nat) (w : World) (hok : e.Oks) (hwf : e.wf = true) (hh : 1 + e.high ≤ 25) (hn : e.nodes ≤ 400) (hrd : Rd w r B (e.put ++ rest)) :
    Calls Try.prog 18 #[.pointer (some ⟨r, 0, none⟩)] w fun ev w' => ∃ A n cap, ev = .returned (.tuple #[.agg (e.plain.cells (.slice A n cap)).toArray, .int .i64 0]) ∧ Ex.In w' e.plain (.slice A n cap) ∧ Rd w' r B rest ∧ ButS (fun k => k = r) w w' := by
  obtain ⟨l1, l2, l3⟩ := hrd.lt
  have HRD := Lib.hid hrd
  have HT : Hid (∀ (W u : World) (vs : List Value), W.heap.size < u.heap.size → Rd u r B (e.put ++ rest) → BoxAt u (w.heap.size + 1) [.pointer (some ⟨r, 0, none⟩), .int .i64 400] → u.cell? ⟨w.heap.size + 2, 0, none⟩ = some (.pointer (some ⟨w.heap.size + 1, 0, none⟩)) → BoxAt u w.heap.size vs → vs.length = 8 → w.heap.size < W.heap.size →
      Calls Try.prog 59 #[.pointer (some ⟨w.heap.size + 2, 0, none⟩), .pointer (some ⟨w.heap.size, 0, none⟩)] u fun ev u' => ev = .returned (.tuple #[]) ∧ ButS (fun k => k = r ∨ k = w.heap.size + 1 ∨ k = w.heap.size) u u' ∧ TakenE r B w.heap.size (W.heap.size + 1) e.plain rest u') :=
    Lib.hid fun W u vs h1 h2 h3 h4 h5 h6 h7 => take1_of r B (w.heap.size + 1) (w.heap.size + 2) w.heap.size (W.heap.size + 1) e rest vs u hok hwf hh hn h2 h3 h4 h5 h6 ⟨by omega, by omega⟩ ⟨by omega, by omega, by omega⟩ (by omega) (by omega)
  clear hok hwf hh hn hrd
  go_enter Try.func18, Try.ntmps18
  go_upto_region 2 with fail
  refine nameW (fun u => Ext w u ∧ BoxAt u w.heap.size zeroEx ∧ BoxAt u (w.heap.size + 1) [.pointer (some ⟨r, 0, none⟩), .int .i64 400] ∧ BoxAt u (w.heap.size + 2) [.pointer (some ⟨w.heap.size + 1, 0, none⟩)]) ⟨?_, ?_, ?_, ?_⟩ ?_
  · repeat (first | (with_reducible exact Ext.refl _) | (with_reducible refine Ext.set_ ?_ _ ?_; focus (first | (simp; done) | (simp; omega) | (simp at *; omega))) | (with_reducible refine Ext.alloc ?_ _) | (with_reducible refine Ext.drew ?_) | (with_reducible refine Ext.drewN ?_ _) | (with_reducible refine Ext.trans ?_ (by assumption)))
  · exact ((BoxAt.new rfl rfl).ext ((Ext.refl _).alloc _)).ext ((Ext.refl _).alloc _)
  · exact (BoxAt.new (by simp) rfl).ext ((Ext.refl _).alloc _)
  · exact BoxAt.new (by simp) rfl
  rintro W ⟨hE, hz, ht, hv⟩
  have hWs : w.heap.size + 2 < W.heap.size := hv.lt
  have HG : Hid (Calls Try.prog 58 #[.func (.func 59) #[] #[.pointer (some ⟨w.heap.size + 2, 0, none⟩), .pointer (some ⟨w.heap.size, 0, none⟩)]] W fun e' w' => e' = .returned (.int .i64 0) ∧ (∃ u, TakenE r B w.heap.size (W.heap.size + 1) e.plain rest u ∧ But W.heap.size u w') ∧ ButS (fun k => k = r ∨ k = w.heap.size + 1 ∨ k = w.heap.size) W w') :=
    Lib.hid (guarded_take2 _ _ W _ (fun k hk => by omega) (Lib.hid fun w' he hs => HT.out W w' zeroEx hs ((HRD.out.ext hE).ext he) (ht.ext he) ((hv.ext he).cells.get 0 _ rfl) (hz.ext he) rfl (by omega)))
  have HE := Lib.hid hE
  clear HT HRD hE hz ht hv
  go_wp2_with (first
    | (go_at_call 58; refine HG.out.mono ?_; rintro ev w2 ⟨rfl, ⟨u, hu, hb⟩, hbs⟩; have hu2 := hu.but hb (by omega) (by omega) (by omega) (by omega); obtain ⟨A, n, cap, q1, q2, q3⟩ := hu2; have HQ1 := Lib.hid q1; have HQ2 := Lib.hid q2; have HQ3 := Lib.hid q3; have HBS := Lib.hid hbs; clear q1 q2 q3 hbs hu hb)
    | (refine wpList_wish rfl fun K hK => wp_loadA (vs := exCells e.plain.kind e.plain.rel e.plain.col e.plain.const (.slice A n cap)) agg_ex (.tmp 2) rfl rfl HQ1.out.cells (hK _ _ ?_))
    | (refine wpList_storeA (vs' := exCells e.plain.kind e.plain.rel e.plain.col e.plain.const (.slice A n cap)) exc_one HQ1.out size_ex rfl rfl (.tmp 2) _ rfl rfl rfl ?_; intro w3 hb1 hb2))
  refine back_ct rfl (exCells e.plain.kind e.plain.rel e.plain.col e.plain.const (.slice A n cap)) (.int .i64 0) rfl rfl agg_ex rfl hb1.cells ⟨A, n, cap, rfl, ?_, ?_, ?_⟩
  · exact (HQ2.out.from_ext (M := fun k => k = w.heap.size) (ButS.of_but hb2 rfl) (fun k hk => by subst hk; omega)).of_from
  · have q3 := HQ3.out
    obtain ⟨m1, m2, -⟩ := q3.lt
    exact q3.keep hb2.size (hb2.at_ r ⟨m1, by omega⟩).1 (hb2.at_ B ⟨m2, by omega⟩).1 (hb2.at_ r ⟨m1, by omega⟩).2.1
  · exact ((ButS.of_ext (M := fun k => k = r) HE.out).over HBS.out (fun i hi => by omega)).over (ButS.of_but (M := fun k => k = w.heap.size) hb2 rfl) (fun i hi => by omega)
end Go.Proofs.Ytlcdjaclahhdnaa
