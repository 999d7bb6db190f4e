/- HllGrows: for every sketch and every value the law answers true, and its arguments read afterwards as before. Conditions: the package variable few reads as the program's text lays it, which the card ties to that text. -/
import Derived.Test.YtlcdjaclahhdnaaDoorCards
import Derived.Test.YtlcdjaclahhdnaaDoorTie
import Derived.Test.YtlcdjaclahhdnaaDoorOpenD
import Derived.Test.YtlcdjaclahhdnaaDoorHll14
namespace Go.Proofs.YtlcdjaclahhdnaaDoor.hllGrows
open Go.RowKit Go.ChangeShapes Go.WideShapes Go.ChangeAt
set_option linter.unusedSimpArgs false
set_option linter.unusedVariables false

section
variable {H : Type} {enc : TypeId × Value → H}
theorem bytes_of (P : Program) {w : World} {base : Nat} {spare : Nat → Bool} {held : Bool} {fuel : Nat} (hu : P.underlying 5 = some (.int .u8)) : ∀ (cs : List Value), (∀ c ∈ cs, ∃ x, DataW.trod enc P w base spare held fuel 5 [c] = some x) → ∃ l : List Nat, cs = bv l ∧ ∀ x ∈ l, x < 256
  | [], _ => ⟨[], rfl, by simp⟩
  | c :: cs, h => by
    obtain ⟨l, hl, hb⟩ := bytes_of P hu cs (fun c hc => h c (by simp [hc]))
    obtain ⟨x, hx⟩ := h c (by simp)
    obtain ⟨k, hk, _, wk⟩ := DataW.trod_int hu hx
    obtain rfl : c = .int .u8 k := by simpa using hk
    have : 0 ≤ k ∧ k ≤ 255 := by simpa [Lit.wf, IntKind.min, IntKind.max, IntKind.signed, IntKind.bits] using wk
    refine ⟨k.toNat :: l, ?_, ?_⟩
    · simp [bv, hl]; omega
    · intro x hx
      rcases List.mem_cons.1 hx with rfl | hx
      · omega
      · exact hb x hx
set_option maxRecDepth 100000 in
/-- 64 bytes among the arguments. -/
theorem open_row {r : Reach} {b0 : Nat} {w : World} {v : Value} {d : DataW H} {p : List MemPlace}
    (hv : Value.okWide Tryd.prog w r b0 30 v) (h : DataW.Trod enc Tryd.prog w 0 (fun _ => true) true 30 v d p) : ∃ l : List Nat, v = .agg (bv l).toArray ∧ l.length = 64 ∧ ∀ x ∈ l, x < 256 := by
  have hc : Tryd.prog.cellsOf 30 = 64 := by kernel_rfl
  have h1 : Tryd.prog.cellsOf 5 = 1 := by kernel_rfl
  have hv' : ∃ cs, v = .agg cs ∧ cs.size = 64 := by
    unfold Value.okWide at hv
    rw [Tryd.underlying30] at hv
    obtain ⟨cs, e1, e2, _⟩ := hv
    exact ⟨cs, e1, e2.trans hc⟩
  obtain ⟨cs, rfl, hsz⟩ := hv'
  obtain ⟨fuel, hf⟩ := h
  obtain ⟨xs, m, _, _, hl, hxl, hall⟩ := DataW.trod_array Tryd.underlying30 hf
  have hcl : cs.toList.length = 64 := by simpa using hsz
  have hall2 : ∀ c ∈ cs.toList, ∃ x, DataW.trod enc Tryd.prog w 0 (fun _ => true) true m 5 [c] = some x := by
    intro c hc
    obtain ⟨i, hi, rfl⟩ := List.getElem_of_mem hc
    have := hall i (by omega)
    rw [h1, Nat.mul_one] at this
    have e : (((Value.agg cs).cells.toList).drop i).take 1 = [cs.toList[i]] := by
      show (cs.toList.drop i).take 1 = _
      rw [List.drop_eq_getElem_cons hi]; rfl
    rw [e] at this
    exact ⟨xs[i]'(by omega), by rw [this, List.getElem?_eq_getElem (by omega)]⟩
  obtain ⟨l, hl2, hb⟩ := bytes_of Tryd.prog Tryd.underlying5 _ hall2
  refine ⟨l, ?_, ?_, hb⟩
  · rw [← hl2]
  · rw [hl2, bv_length] at hcl; exact hcl
end
theorem contract (H : Type) (enc : TypeId × Value → H) (W : World) (base : Nat) (args : Array Value) (ds gs : List (DataW H)) (before : List MemPlace)
    (hval0 : ∀ (j : Nat) t v, Tryd.f4.params[j]? = some t → args[j]? = some v → Value.okWide Tryd.prog W .any base t v)
    (hW : DataW.Whole enc Tryd.prog Tryd.f4.params.toList Rows.hllGrowsSpec.vars false W args.toList ds gs before) (hL : laidMetH Tryd.prog Rows.hllGrowsRow.laid W) :
    Calls Tryd.prog 4 args W fun e W' => ∃ v, e = .returned v ∧ Rows.hllGrowsSpec.post enc Tryd.prog Tryd.f4 false true false false W args v W' := by
  have hval := hval0
  have hW' := hW
  obtain ⟨p, q, hA0, hV, rfl, hfz, hnd⟩ := hW
  have hA : DataW.TrodAll enc Tryd.prog W 0 (fun _ => true) true Tryd.f4.params.toList args.toList ds p := hA0
  rw [Tryd.params4] at hA hval
  obtain ⟨v0, v1, d0, d1, p0, p1, rfl, rfl, rfl, h0, h1⟩ := trodAll_two hA
  obtain ⟨rfl, rfl⟩ := trodVars_none hV
  obtain ⟨l, rfl, hl, hb⟩ := open_row (hval 0 _ _ rfl rfl) h0
  obtain ⟨a, ka, rfl, rfl, rfl⟩ := open_val (hval 1 _ _ rfl rfl) h1
  obtain ⟨hf, hgl⟩ := few_met hL
  refine (grows_walk l a W hl hb ka hf hgl).mono fun e W' ⟨he, hE⟩ => ?_
  subst he
  exact ⟨_, rfl, hE.post hW' rfl rfl rfl (by rw [Tryd.params4]; decide +kernel)⟩

theorem laid_met (os : Os) : laidMet Tryd.prog Rows.hllGrowsRow.laid ((laidWorld os).forCall (fun _ _ => 0) ⟨#[], #[.agg (bv (List.replicate 64 0)).toArray, .agg #[.int .i64 0, .int .i64 0, .float .f64 0, .string ⟨#[]⟩]], []⟩).memory :=
  laidMet_of_run' 8 (by kernel_rfl) (by kernel_rfl)
theorem reads (os : Os) {H : Type} (enc : TypeId × Value → H) : ∃ places, DataW.whole enc Tryd.prog ((laidWorld os).forCall (fun _ _ => 0) ⟨#[], #[.agg (bv (List.replicate 64 0)).toArray, .agg #[.int .i64 0, .int .i64 0, .float .f64 0, .string ⟨#[]⟩]], []⟩).memory Tryd.f4.params.toList Rows.hllGrowsSpec.vars false #[Value.agg (bv (List.replicate 64 0)).toArray, .agg #[.int .i64 0, .int .i64 0, .float .f64 0, .string ⟨#[]⟩]].toList 8 = some ([.agg (List.replicate 64 (.lit (.int .u8 0))), .agg [.lit (.int .i64 0), .lit (.int .i64 0), .lit (.float .f64 0), .lit (.string [])]], [], places) :=
  ⟨[], by kernel_rfl⟩

set_option maxRecDepth 100000 in
theorem lifted (os : Os) (started : os.Started) (H : Type) (enc : TypeId × Value → H) (F : Stop.Interp) :
    ReturnsInHanded {} Tryd.checked os 4 .any ((OpenSpec.ofChange Rows.hllGrowsSpec).preRow enc Tryd.prog Tryd.f4 Rows.hllGrowsRow.domain false Rows.hllGrowsRow.laid) (((OpenSpec.ofChange Rows.hllGrowsSpec).at F).post enc Tryd.prog Tryd.f4 false true false false) := by
  obtain ⟨places, hx⟩ := reads os enc
  refine returnsInHanded_of_row (C := Tryd.checked) (s := OpenSpec.ofChange Rows.hllGrowsSpec) own started (by kernel_rfl) Tryd.func4
    (witness_row_at (enc := enc) (C := Tryd.checked) false (laidWorld os) #[.agg (bv (List.replicate 64 0)).toArray, .agg #[.int .i64 0, .int .i64 0, .float .f64 0, .string ⟨#[]⟩]] rfl (by kernel_rfl) (by kernel_rfl) (by kernel_rfl)
      (OpenSpec.preRow_of_cond 8 hx (by kernel_rfl) (fun k hk => by cases hk) (by kernel_rfl) (laid_met os))) ?_
  intro W base args ds gs before hval hW _ _ _ hL _ _
  exact contract H enc W base args ds gs before hval hW hL

theorem said : Rows.HllGrowsSaid :=
  OpenClaim.holds_of_cond 4 Tryd.f4 rfl rfl rfl rfl rfl rfl rfl ⟨rfl, rfl, rfl, rfl, rfl⟩ rfl rfl rfl rfl rfl (by kernel_rfl) Tryd.func4 (by kernel_rfl)
    (of_decide_eq_true (by kernel_rfl)) (by unfold Func.isWrapper; first | (rw [if_pos (by decide +kernel)]; kernel_rfl) | (rw [if_neg (by decide +kernel)]; exact ⟨rfl, rfl⟩))
    (fun os started H enc _ F => by rw [OpenClaim.pre_eq_preRow]; exact lifted os started H enc F)

theorem plain (f : FuncId) (fn : Func) (hf : Tryd.pinned.checked.prog.funcNamed "tabulary/tabularylaw17.HllGrows" = some f) (hfn : Tryd.pinned.checked.prog.funcs[f]? = some fn) :
    false = Tryd.pinned.checked.prog.looks [] ∧ ∀ (j : Nat) t, fn.params[j]? = some t → Tryd.pinned.checked.prog.wantsStandIn t = false := by
  obtain rfl : f = 4 := Option.some.inj ((show Tryd.prog.funcNamed "tabulary/tabularylaw17.HllGrows" = some 4 by kernel_rfl).symm.trans hf) |>.symm
  obtain rfl : fn = Tryd.f4 := (Option.some.inj (Tryd.func4.symm.trans hfn)).symm
  refine ⟨by kernel_rfl, fun j t ht => ?_⟩
  rw [Tryd.params4] at ht
  have hm := Array.mem_of_getElem? ht
  have h1 : Tryd.prog.wantsStandIn 30 = false := by kernel_rfl
  have h2 : Tryd.prog.wantsStandIn 27 = false := by kernel_rfl
  simp at hm
  rcases hm with rfl | rfl
  · exact h1
  · exact h2

theorem card : Rows.HllGrowsCardSaid :=
  Claim7.holds_tied_plain_at .later [] _ _ _ _ said (fun _ h => by cases h) (by kernel_rfl) (fun _ h => by cases h) hllGrows_row_tie rfl ⟨rfl, rfl⟩ (by kernel_rfl) rfl plain (by kernel_rfl)
end Go.Proofs.YtlcdjaclahhdnaaDoor.hllGrows
