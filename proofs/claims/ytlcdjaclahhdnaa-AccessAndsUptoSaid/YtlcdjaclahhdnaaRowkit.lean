/- What all rows share: a walk that ends in 'true' over an old world that has not turned meets the law's 'post'; how a value among the arguments is opened. -/
import Derived.Test.YtlcdjaclahhdnaaPutV
import Derived.ProofKit
import Derived.OpenShut
import Derived.Carry
import Derived.Lib.SmallJoins
import Derived.Laws.Cover2
namespace Go.Proofs.Ytlcdjaclahhdnaa
open Go.RowKit Go.ChangeShapes Go.WideShapes Go.ChangeAt
set_option linter.unusedSimpArgs false
set_option linter.unusedVariables false

theorem laidOut : laidOutB Try.prog = true := by kernel_rfl
theorem own : ownKnob Try.prog.godebug = none := by kernel_rfl

section
variable {H : Type} {enc : TypeId × Value → H}

theorem Ext.trodAll {W W' : World} (hE : Ext W W') : ∀ {ts : List TypeId} {vs : List Value} {ds : List (DataW H)} {ps : List MemPlace},
    (∀ t ∈ ts, Try.prog.readableRec t = true ∧ t < Try.prog.types.size) → (∀ x ∈ ps, x.block < W.heap.size) →
    DataW.TrodAll enc Try.prog W 0 (fun _ => true) true ts vs ds ps → DataW.TrodAll enc Try.prog W' 0 (fun b => decide (b < W.heap.size)) true ts vs ds ps
  | [], _, _, _, _, _, h => by
    obtain ⟨rfl, rfl, rfl⟩ := trodAll_nil h
    exact trodAll_mk0
  | t :: ts, _, _, _, ht, hlt, h => by
    obtain ⟨v, vs1, d, ds1, a, b, rfl, rfl, rfl, h1, h2⟩ := trodAll_cons h
    obtain ⟨r1, r2⟩ := ht t (by simp)
    exact ⟨a, b, Below.trod laidOut r1 r2 h1 hE (fun x hx => hlt x (by simp [hx])), Ext.trodAll hE (fun t ht' => ht t (by simp [ht'])) (fun x hx => hlt x (by simp [hx])) h2, rfl⟩

/-- THE END OF EVERY ROW. -/
theorem Ext.post {f : Func} {s : ChangeSpec} {W W' : World} {args : Array Value} {ds gs : List (DataW H)} {before : List MemPlace} (hE : Ext W W')
    (hW : DataW.Whole enc Try.prog f.params.toList s.vars false W args.toList ds gs before)
    (hv : s.vars = []) (hr : f.resultTypes = #[4])
    (hs : s.fn H (ds ++ gs) = { results := [.lit (.bool true)], args := ds })
    (ht : ∀ t ∈ f.params.toList, Try.prog.readableRec t = true ∧ t < Try.prog.types.size) :
    s.post enc Try.prog f false true false false W args (.bool true) W' := by
  have hlt := hW.lt
  have hW' := hW
  obtain ⟨p, q, hA, hV, rfl, hfz, hnd⟩ := hW
  rw [hv] at hV
  obtain ⟨rfl, rfl⟩ := trodVars_none hV
  refine ⟨ds, [], p ++ [], [], p, [], hW', ?_, ?_, ?_, Below.frame hE _, fun h => by cases h⟩
  · rw [hr, hs]
    exact trodAll_mk1 (shut_bool Try.underlying4 _)
  · rw [hs]
    exact hE.trodAll ht (fun x hx => hlt x (by simp [hx])) hA
  · rw [hs, hv]
    rfl

set_option maxRecDepth 100000 in
set_option linter.constructorNameAsVariable false in
theorem open_val {r : Reach} {b0 : Nat} {w : World} {base : Nat} {spare : Nat → Bool} {held : Bool} {v : Value} {d : DataW H} {p : List MemPlace}
    (hv : Value.okWide Try.prog w r b0 24 v) (h : DataW.Trod enc Try.prog w base spare held 24 v d p) :
    ∃ a : Val, a.Ok ∧ v = .agg #[.int .i64 a.kind, .int .i64 a.int, .float .f64 a.flt, .string a.text] ∧ p = [] ∧
      d = .agg [.lit (.int .i64 a.kind), .lit (.int .i64 a.int), .lit (.float .f64 a.flt), .lit (.string a.text.data.toList)] := by
  obtain ⟨v0, v1, v2, v3, y0, y1, y2, y3, n, rfl, rfl, rfl, h0, h1, h2, h3⟩ := Go.Joins.open_agg4 Try.underlying24 (by kernel_rfl) (by kernel_rfl) hv h
  obtain ⟨k, hk, hy0, wk⟩ := DataW.trod_int Try.underlying3 h0
  obtain ⟨i, hi, hy1, wi⟩ := DataW.trod_int Try.underlying2 h1
  obtain ⟨s, hs, hy3, ws⟩ := DataW.trod_string Try.underlying9 h3
  have hf : ∃ b, v2 = .float .f64 b ∧ y2 = (.lit (.float .f64 b), []) ∧ (Lit.float .f64 b).wf = true := by
    cases n with
    | zero => simp [DataW.trod] at h2
    | succ n =>
      unfold DataW.trod at h2
      rw [Try.underlying22] at h2
      split at h2 <;> simp_all
  obtain ⟨b, rfl, rfl, wf⟩ := hf
  obtain rfl : v0 = .int .i64 k := by simpa using hk
  obtain rfl : v1 = .int .i64 i := by simpa using hi
  obtain rfl : v3 = .string s := by simpa using hs
  subst hy0 hy1 hy3
  refine ⟨⟨k, i, b, s⟩, ⟨?_, ?_, ?_, ?_⟩, rfl, rfl, rfl⟩
  · simpa [Lit.wf, IntKind.min, IntKind.max, IntKind.signed, IntKind.bits] using wk
  · simpa [Lit.wf, IntKind.min, IntKind.max, IntKind.signed, IntKind.bits] using wi
  · simpa [Lit.wf] using wf
  · have : maxLen ≤ 9223372036854775807 := by decide
    exact Nat.le_trans ws this
end
end Go.Proofs.Ytlcdjaclahhdnaa
