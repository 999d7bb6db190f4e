/- The call of expr.Eval. The call of expr.Eval. -/
import Derived.Test.YtlcdjaclahhdnaaEv5
import Derived.Test.YtlcdjaclahhdnaaGd
import Derived.Test.YtlcdjaclahhdnaaEv0a
namespace Go.Proofs.Ytlcdjaclahhdnaa
open Go.RowKit
set_option linter.unusedSimpArgs false
set_option linter.unusedVariables false

/-- What expr.Eval tells: a value, an error's number. -/
def Ex.Eval (e : Ex) (rows : List (List Val)) : Val × Int := if 0 ≤ e.count 1 400 then (if (e.eval rows).2 = 0 then ((e.eval rows).1, 0) else (Val.null, (e.eval rows).2)) else (Val.null, 2)
theorem size_rows : (Try.prog.info? 50).map (·.size) = some 1 := by kernel_rfl
/-- The closure in expr.Eval: a captured expression, rows, and the place of the result. -/
structure EvC (w : World) (g h p : Nat) (e : Ex) (s rv : Value) (rows : List (List Val)) (v : List Value) : Prop where
  ebox : BoxAt w g (e.cells s)
  ein : Ex.In w e s
  rbox : BoxAt w h [rv]
  rin : RowsIn w rv rows
  res : BoxAt w p v
theorem EvC.ext {w w' : World} {g h p : Nat} {e : Ex} {s rv : Value} {rows : List (List Val)} {v : List Value} (he : Ext w w') (k : EvC w g h p e s rv rows v) : EvC w' g h p e s rv rows v :=
  ⟨k.ebox.ext he, Ex.In.ext he _ _ k.ein, k.rbox.ext he, k.rin.ext he, k.res.ext he⟩

set_option maxRecDepth 100000 in
set_option maxHeartbeats 1000000 in
theorem evclosure_ok (g h p : Nat) (e : Ex) (A : Option Addr) (cap : Nat) (RA : Option Addr) (rc : Nat) (rows : List (List Val)) (v : List Value) (hv : v.length = 4) (w : World)
    (hc : EvC w g h p e (.slice A e.kids.length cap) (.slice RA rows.length rc) rows v) (hwf : e.wf = true) (hz : (e.eval rows).2 = 0) :
    Calls Try.prog 85 #[.pointer (some ⟨g, 0, none⟩), .pointer (some ⟨h, 0, none⟩), .pointer (some ⟨p, 0, none⟩)] w
      fun ev w' => ev = .returned (.tuple #[]) ∧ But p w w' ∧ BoxAt w' p (e.eval rows).1.cells := by
  have hcall := Lib.hid (eval_of e (.slice A e.kids.length cap) w (.slice RA rows.length rc) rows hc.ein hc.rin hwf)
  have HC := Lib.hid hc
  unfold Ex.cells exCells at hcall
  generalize e.eval rows = q at *
  have HZ := Lib.hid hz
  clear hc hz
  go_enter Try.func85, Try.ntmps85
  go_wp2_with (first
    | (refine wpList_wish rfl fun K hK => wp_loadA (vs := [.int .i64 e.kind, .int .i64 e.rel, .int .i64 e.col, .int .i64 e.const.kind, .int .i64 e.const.int, .float .f64 e.const.flt, .string e.const.text, .slice A e.kids.length cap]) agg_ex (.tmp 0) rfl rfl HC.out.ebox.cells (hK _ _ ?_))
    | (refine wpList_wish rfl fun K hK => wp_cell Try.underlying50 rfl (.tmp 1) rfl rfl (HC.out.rbox.cells.get 0 _ rfl) (hK _ _ ?_))
    | (go_at_call 86; refine hcall.out.mono ?_; rintro ev w1 he; obtain ⟨rfl, hb⟩ := EvR.ok HZ.out he; have HB := Lib.hid (HC.out.res.ext hb); have HE := Lib.hid hb; clear hb he)
    | (refine wpList_storeA (val_one q.1) HB.out sizeVal (by rw [hv]; rfl) rfl (.tmp 2) (.tmp 5) rfl rfl rfl ?_; intro w2 hb1 hb2))
  go_end0
  exact ⟨rfl, (But.of_ext HE.out).trans hb2, hb1⟩
set_option maxRecDepth 100000 in
set_option maxHeartbeats 1000000 in
theorem evclosure_bad (g h p : Nat) (e : Ex) (A : Option Addr) (cap : Nat) (RA : Option Addr) (rc : Nat) (rows : List (List Val)) (v : List Value) (w : World)
    (hc : EvC w g h p e (.slice A e.kids.length cap) (.slice RA rows.length rc) rows v) (hwf : e.wf = true) (hz : (e.eval rows).2 ≠ 0) :
    Calls Try.prog 85 #[.pointer (some ⟨g, 0, none⟩), .pointer (some ⟨h, 0, none⟩), .pointer (some ⟨p, 0, none⟩)] w
      fun ev w' => ev = .panicked (chainE (e.eval rows).2) ∧ Ext w w' := by
  have hcall := Lib.hid (eval_of e (.slice A e.kids.length cap) w (.slice RA rows.length rc) rows hc.ein hc.rin hwf)
  have HC := Lib.hid hc
  unfold Ex.cells exCells at hcall
  generalize e.eval rows = q at *
  have HZ := Lib.hid hz
  clear hc hz
  go_enter Try.func85, Try.ntmps85
  go_wp2_with (first
    | (refine wpList_wish rfl fun K hK => wp_loadA (vs := [.int .i64 e.kind, .int .i64 e.rel, .int .i64 e.col, .int .i64 e.const.kind, .int .i64 e.const.int, .float .f64 e.const.flt, .string e.const.text, .slice A e.kids.length cap]) agg_ex (.tmp 0) rfl rfl HC.out.ebox.cells (hK _ _ ?_))
    | (refine wpList_wish rfl fun K hK => wp_cell Try.underlying50 rfl (.tmp 1) rfl rfl (HC.out.rbox.cells.get 0 _ rfl) (hK _ _ ?_))
    | (go_at_call 86; refine hcall.out.mono ?_; rintro ev w1 he; obtain ⟨rfl, hb⟩ := EvR.bad HZ.out he; have HE := Lib.hid hb; clear hb he))
  exact ⟨rfl, rfl, HE.out⟩
end Go.Proofs.Ytlcdjaclahhdnaa
namespace Go.Proofs.Ytlcdjaclahhdnaa
open Go.RowKit
set_option linter.unusedSimpArgs false
set_option linter.unusedVariables false

set_option maxRecDepth 100000 in
set_option maxHeartbeats 2000000 in
theorem Eval_of (e : Ex) (s : Value) (w : World) (rv : Value) (rows : List (List Val)) (hin : Ex.In w e s) (hrows : RowsIn w rv rows) :
    Calls Try.prog 28 #[.agg (e.cells s).toArray, rv] w fun ev w' => ev = .returned (.tuple #[(e.Eval rows).1.enc, .int .i64 (e.Eval rows).2]) ∧ Ext w w' := by
  obtain ⟨_, A, cap, rfl, _⟩ := hin.mk_inv.2.2.2.2
  obtain ⟨RA, rc, rfl, _⟩ := hrows.val
  have hmf : ∀ (fn : Fn) (first cap : Array Value) (w : World), (Instr.makeFunc fn first cap).run Try.prog w = .ok (.func fn first cap) w := fun _ _ _ _ => rfl
  have HF := Lib.hid (fun w h => formed_of e (.slice A e.kids.length cap) w h)
  have hc0 : EvC (((w.alloc (.cells (e.cells (.slice A e.kids.length cap)).toArray 27)).alloc (.cells #[.slice RA rows.length rc] 50)).alloc (.cells nullCells.toArray 24)) w.heap.size (w.heap.size + 1) (w.heap.size + 1 + 1) e (.slice A e.kids.length cap) (.slice RA rows.length rc) rows nullCells :=
    ⟨((BoxAt.new rfl rfl).ext ((Ext.refl _).alloc _)).ext ((Ext.refl _).alloc _), Ex.In.ext ((((Ext.refl _).alloc _).alloc _).alloc _) _ _ hin, (BoxAt.new (by simp) rfl).ext ((Ext.refl _).alloc _), hrows.ext ((((Ext.refl _).alloc _).alloc _).alloc _), BoxAt.new (by simp) rfl⟩
  have hE0 : Ext w (((w.alloc (.cells (e.cells (.slice A e.kids.length cap)).toArray 27)).alloc (.cells #[.slice RA rows.length rc] 50)).alloc (.cells nullCells.toArray 24)) := (((Ext.refl _).alloc _).alloc _).alloc _
  have HC := Lib.hid hc0; have HE := Lib.hid hE0
  clear hc0 hE0 hin hrows
  unfold Ex.cells exCells at HE HF
  unfold nullCells at HE
  show Calls Try.prog 28 #[.agg #[.int .i64 e.kind, .int .i64 e.rel, .int .i64 e.col, .int .i64 e.const.kind, .int .i64 e.const.int, .float .f64 e.const.flt, .string e.const.text, .slice A e.kids.length cap], .slice RA rows.length rc] w _
  unfold Ex.Eval
  by_cases hf : 0 ≤ e.count 1 400
  · have hwf := Ex.count_wf e 1 400 hf
    rw [if_pos hf]
    have hd : decide (0 ≤ e.count 1 400) = true := decide_eq_true hf
    rw [hd] at HF
    by_cases hz : (e.eval rows).2 = 0
    · rw [if_pos hz]
      have HOK := Lib.hid (fun g h p v hv w hc => evclosure_ok g h p e A cap RA rc rows v hv w hc hwf hz)
      generalize e.eval rows = q at *
      clear hf hd hwf hz
      go_enter Try.func28, Try.ntmps28
      go_wp2_with (first
        | (refine wpList_wish rfl fun K hK => wp_loadA (vs := [.int .i64 e.kind, .int .i64 e.rel, .int .i64 e.col, .int .i64 e.const.kind, .int .i64 e.const.int, .float .f64 e.const.flt, .string e.const.text, .slice A e.kids.length cap]) agg_ex (.tmp 2) rfl rfl HC.out.ebox.cells (hK _ _ ?_))
        | (go_at_call 15; refine (HF.out _ HC.out.ein).mono ?_; rintro ev w1 ⟨rfl, hb⟩; have HC := Lib.hid (HC.out.ext hb); have HE := Lib.hid (HE.out.trans hb); clear hb)
        | (go_at_call 58; refine (guarded_ok_eval _ w1 (fun u => BoxAt u (w.heap.size + 1 + 1) q.1.cells) (w.heap.size + 1 + 1) HC.out.res.lt (Lib.hid fun w' he => HOK.out _ _ _ nullCells rfl w' (HC.out.ext he))).mono ?_; rintro ev w2 ⟨rfl, ⟨u, hu1, hu2⟩, hb⟩; have HR := Lib.hid (But.box hu2 (Nat.ne_of_lt HC.out.res.lt) hu1); have HE := Lib.hid (But.to_ext HE.out hb (by omega)); clear hu1 hu2 hb)
        | (refine wpList_wish rfl fun K hK => wp_loadA (vs := [.int .i64 q.1.kind, .int .i64 q.1.int, .float .f64 q.1.flt, .string q.1.text]) agg_val (.tmp 4) rfl rfl HR.out.cells (hK _ _ ?_))
        | (refine wpList_storeA (val_one q.1) HR.out sizeVal rfl rfl (.tmp 4) (.tmp 17) rfl rfl rfl ?_; intro w3 hb1 hb2; have HE := Lib.hid (But.to_ext HE.out hb2 (by omega))))
      refine back_ct rfl (Val.cells q.1) _ rfl rfl agg_val rfl hb1.cells ⟨rfl, HE.out⟩
    · rw [if_neg hz]
      have HBAD := Lib.hid (fun g h p v w hc => evclosure_bad g h p e A cap RA rc rows v w hc hwf hz)
      generalize e.eval rows = q at *
      have HZ := Lib.hid hz
      have hzz : (q.2 != 0) = true := by simpa using hz
      clear hf hd hwf hz
      go_enter Try.func28, Try.ntmps28
      go_wp2_with (first
        | (refine wpList_wish rfl fun K hK => wp_loadA (vs := [.int .i64 e.kind, .int .i64 e.rel, .int .i64 e.col, .int .i64 e.const.kind, .int .i64 e.const.int, .float .f64 e.const.flt, .string e.const.text, .slice A e.kids.length cap]) agg_ex (.tmp 2) rfl rfl HC.out.ebox.cells (hK _ _ ?_))
        | (go_at_call 15; refine (HF.out _ HC.out.ein).mono ?_; rintro ev w1 ⟨rfl, hb⟩; have HC := Lib.hid (HC.out.ext hb); have HE := Lib.hid (HE.out.trans hb); clear hb)
        | (go_at_call 58; refine (guarded_bad_eval _ w1 q.2 w.heap.size HC.out.ebox.lt (Lib.hid fun w' he => (HBAD.out _ _ _ nullCells w' (HC.out.ext he)).mono fun ev u ⟨h1, h2⟩ => ⟨h1, But.of_ext h2⟩)).mono ?_; rintro ev w2 ⟨rfl, hb⟩; have HE := Lib.hid (But.to_ext HE.out hb (by omega)); have HR := Lib.hid (But.box hb (by omega) HC.out.res); clear hb)
        | (refine wpList_storeA null_one HR.out sizeVal rfl rfl (.tmp 4) (.tmp 15) rfl rfl rfl ?_; intro w3 hb1 hb2; have HE := Lib.hid (But.to_ext HE.out hb2 (by omega))))
      refine back_ct rfl (Val.cells Val.null) _ rfl rfl agg_val rfl hb1.cells ⟨rfl, HE.out⟩
  · rw [if_neg hf]
    have hd : decide (0 ≤ e.count 1 400) = false := decide_eq_false hf
    rw [hd] at HF
    clear hf hd
    go_enter Try.func28, Try.ntmps28
    go_wp2_with (first
      | (refine wpList_wish rfl fun K hK => wp_loadA (vs := [.int .i64 e.kind, .int .i64 e.rel, .int .i64 e.col, .int .i64 e.const.kind, .int .i64 e.const.int, .float .f64 e.const.flt, .string e.const.text, .slice A e.kids.length cap]) agg_ex (.tmp 2) rfl rfl HC.out.ebox.cells (hK _ _ ?_))
      | (go_at_call 15; refine (HF.out _ HC.out.ein).mono ?_; rintro ev w1 ⟨rfl, hb⟩; have HC := Lib.hid (HC.out.ext hb); have HE := Lib.hid (HE.out.trans hb); clear hb)
      | (refine wpList_storeA null_one HC.out.res sizeVal rfl rfl (.tmp 4) _ rfl rfl rfl ?_; intro w3 hb1 hb2))
    refine back_ct rfl (Val.cells Val.null) _ rfl rfl agg_val rfl hb1.cells ⟨rfl, But.to_ext HE.out hb2 (by omega)⟩
end Go.Proofs.Ytlcdjaclahhdnaa
