/- The call of expr.Put. -/
import Derived.Test.YtlcdjaclahhdnaaTy6
import Derived.Test.YtlcdjaclahhdnaaLaw4
import Derived.Deep.RegionHeld3
import Derived.Deep.DeepCutAuto
import Derived.Deep.CutBlock
namespace Go.Proofs.Ytlcdjaclahhdnaa
open Go.RowKit
set_option linter.unusedSimpArgs false
set_option linter.unusedVariables false

def headPut (k r c : Int) (v : Val) : List Nat := if k = 1 then putUint r.toNat ++ putUint c.toNat else if k = 2 then putV v else []
mutual
/-- The bytes of an expression. -/
def Ex.put : Ex → List Nat
  | .mk k r c v l => k.toNat :: (headPut k r c v ++ Exs.put l)
termination_by structural e => e
def Exs.put : List Ex → List Nat
  | [] => []
  | e :: l => e.put ++ Exs.put l
termination_by structural l => l
end
mutual
def Ex.nodes : Ex → Nat
  | .mk _ _ _ _ l => 1 + Exs.nodes l
termination_by structural e => e
def Exs.nodes : List Ex → Nat
  | [] => 0
  | e :: l => e.nodes + Exs.nodes l
termination_by structural l => l
end
theorem Exs.put_take {l : List Ex} {i : Nat} (hi : i < l.length) : Exs.put (l.take (i + 1)) = Exs.put (l.take i) ++ l[i].put := by
  induction l generalizing i with
  | nil => simp at hi
  | cons e l ih =>
    cases i with
    | zero => simp [Exs.put]
    | succ i => simp only [List.take_succ_cons, Exs.put, List.getElem_cons_succ]; rw [ih (by simpa using hi), List.append_assoc]
theorem Exs.nodes_take {l : List Ex} {i : Nat} (hi : i < l.length) : Exs.nodes (l.take (i + 1)) = Exs.nodes (l.take i) + l[i].nodes := by
  induction l generalizing i with
  | nil => simp at hi
  | cons e l ih =>
    cases i with
    | zero => simp [Exs.nodes]
    | succ i => simp only [List.take_succ_cons, Exs.nodes, List.getElem_cons_succ]; rw [ih (by simpa using hi)]; omega
theorem Exs.nodes_take_le (l : List Ex) (i : Nat) : Exs.nodes (l.take i) ≤ Exs.nodes l := by
  induction l generalizing i with
  | nil => simp [Exs.nodes]
  | cons e l ih =>
    cases i with
    | zero => simp [Exs.nodes]
    | succ i => simp only [List.take_succ_cons, Exs.nodes]; have := ih i; omega
theorem headPut_length {k r c : Int} {v : Val} (hv : v.Ok) : (headPut k r c v).length ≤ 100 := by
  unfold headPut
  split
  · have := putUint_length r.toNat; have := putUint_length c.toNat; rw [List.length_append]; omega
  · split
    · exact putV_length hv
    · simp
/-- Bytes of a call's own, behind a write onto its row: a box that is no row of bytes. -/
structure BoxN (w : World) (g : Nat) (vs : List Value) : Prop where
  box : BoxAt w g vs
  no : NotT 5 w g
theorem BoxN.ext {w w' : World} {g : Nat} {vs : List Value} (he : Ext w w') (h : BoxN w g vs) : BoxN w' g vs := ⟨h.box.ext he, h.no.ext he⟩
theorem BoxN.wr {w w' : World} {base g : Nat} {vs : List Value} (he : Wr 5 base w w') (h : BoxN w g vs) : BoxN w' g vs := by
  obtain ⟨c, f, l⟩ := he.at2 g h.no
  exact ⟨⟨At.of_get fun j v hv => (c _).trans (h.box.cells.get j v hv), fun j => (f j).trans (h.box.free j), l⟩, h.no.wr he⟩
theorem BoxN.new {w : World} {g : Nat} (hg : g = w.heap.size) {vs : List Value} {A : Array Value} (hA : A = vs.toArray) : BoxN (w.alloc (.cells A 27)) g vs :=
  ⟨BoxAt.new hg hA, NotT.new hg (by decide)⟩
theorem OwnB.drew {w : World} {base : Nat} {v : Value} {l : List Nat} (h : OwnB w base v l) : OwnB w.drew base v l := h

set_option maxRecDepth 100000 in
set_option maxHeartbeats 4000000 in
theorem put_of (W0 : World) (base : Nat) (hW0 : W0.heap.size ≤ base) : ∀ (e : Ex) (s : Value) (bv : Value) (b : List Nat) (w : World), Ex.In W0 e s → e.wf = true → Ext W0 w → base ≤ w.heap.size → OwnB w base bv b → b.length + 101 * e.nodes ≤ 100000000 →
    Calls Try.prog 17 #[bv, .agg (e.cells s).toArray] w fun ev w' => ∃ v', ev = .returned v' ∧ OwnB w' base v' (b ++ e.put) ∧ Wr 5 base w w' ∧ e.put.length ≤ 101 * e.nodes := by
  intro e
  induction e using Ex.ind with
  | h k r c v l ih =>
    intro s bv b w hin hwf hE hbw hown hlen
    simp only [Ex.wf, Bool.and_eq_true, decide_eq_true_eq] at hwf
    obtain ⟨⟨hk0, hf⟩, hl⟩ := hwf
    rw [Exs.wf_iff] at hl
    obtain ⟨hk, hr, hc, hv⟩ := hin.fields
    obtain ⟨hlm, A, cap, rfl, hkr⟩ := hin.kids
    have hk13 : 1 ≤ k ∧ k ≤ 13 := by
      unfold kidsOf at hk0
      split at hk0
      · omega
      · split at hk0
        · omega
        · split at hk0
          · omega
          · omega
    have hlh := headPut_length (k := k) (r := r) (c := c) hv
    simp only [Ex.nodes] at hlen
    show Calls Try.prog 17 #[bv, .agg (exCells k r c v (.slice A l.length cap)).toArray] w fun ev w' => ∃ v', ev = .returned v' ∧ OwnB w' base v' (b ++ (Ex.mk k r c v l).put) ∧ Wr 5 base w w' ∧ (Ex.mk k r c v l).put.length ≤ 101 * (Ex.mk k r c v l).nodes
    simp only [Ex.put, Ex.nodes]
    have HIN := Lib.hid hin.kids; have IH := Lib.hid ih; have HL := Lib.hid hl; have HOWN := Lib.hid hown; have HE := Lib.hid hE; have HV := Lib.hid hv
    have hR : k = 1 → 0 ≤ r ∧ r ≤ 31 ∧ 0 ≤ c ∧ c ≤ 31 := fun e1 => by
      unfold fieldsOk at hf
      split at hf
      · cases hf
      · rename_i h
        simp only [inRel, Bool.and_eq_false_iff, decide_eq_false_iff_not] at h
        omega
    have hb0 := Lib.hid (BoxN.new (w := w) rfl (vs := exCells k r c v (.slice A l.length cap)) rfl)
    clear hin ih hkr hk hr hc hv hl hf hk0 hown hE
    have hkn : k % 256 = k := by omega
    have HLH := Lib.hid hlh; clear hlh
    obtain ⟨P, hP⟩ : ∃ P : Ending → World → Prop, P = fun ev w' => ∃ v'', ev = .returned v'' ∧ OwnB w' base v'' (b ++ k.toNat :: (headPut k r c v ++ Exs.put l)) ∧ Wr 5 base w w' ∧ (k.toNat :: (headPut k r c v ++ Exs.put l)).length ≤ 101 * (1 + Exs.nodes l) := ⟨_, rfl⟩
    rw [← hP]
    have HPP : Hid (∀ v' w', OwnB w' base v' (b ++ k.toNat :: (headPut k r c v ++ Exs.put l)) → Wr 5 base w w' → (Exs.put l).length ≤ 101 * Exs.nodes l → P (.returned v') w') := Lib.hid fun v' w' h1 h2 h3 => by rw [hP]; exact ⟨v', rfl, h1, h2, by have := HLH.out; simp only [List.length_cons, List.length_append]; omega⟩
    clear hP
    unfold exCells at *
    go_enter Try.func17, Try.ntmps17
    go_upto_block 0 with (first
      | (refine wpList_byte rfl (.tmp 7) (.tmp 11) rfl rfl (HOWN.out.ext ((Ext.refl _).alloc _)) _ k.toNat rfl (by simp) (by omega) (by omega) (by simp; omega) ?_; intro v1 w1 ho1 hw1; have HO1 := Lib.hid ho1; have HW1 := Lib.hid hw1; have HB1 := Lib.hid (hb0.out.wr hw1); have hx0 := HB1.out.box.cells.1; clear ho1 hw1))
    have hbw1 := HW1.out.size
    go_cut [0] (fun s0 wx => OwnB wx base s0 (b ++ k.toNat :: headPut k r c v) ∧ BoxN wx w.heap.size (exCells k r c v (.slice A l.length cap)) ∧ Wr 5 base w wx)
    case first =>
      unfold exCells at *
      clear HPP IH HIN HE
      obtain ⟨b0, b1, b2, b3, b4, b5, b6, b7, _⟩ := HB1.out.box.cells
      simp only [Nat.zero_add, Nat.reduceAdd] at b0 b1 b2 b3 b4 b5 b6 b7
      by_cases k1 : k = 1
      · subst k1
        obtain ⟨hr0, hr1, hc0, hc1⟩ := hR rfl
        obtain ⟨r', rfl⟩ := Int.eq_ofNat_of_zero_le hr0
        obtain ⟨c', rfl⟩ := Int.eq_ofNat_of_zero_le hc0
        have er : IntKind.u64.wrap (r' : Int) = (r' : Int) := by rw [IntKind.wrap_u64]; omega
        have ec : IntKind.u64.wrap (c' : Int) = (c' : Int) := by rw [IntKind.wrap_u64]; omega
        have hB1 : base ≤ w1.heap.size := by simp at hbw1; omega
        have hL1 : (b ++ [Int.toNat 1]).length ≤ 1000000000 := by simp; omega
        have hR64 : r' < 18446744073709551616 := by omega
        have hC64 : c' < 18446744073709551616 := by omega
        have hL2 : ((b ++ [Int.toNat 1]) ++ putUint r').length ≤ 1000000000 := by have := putUint_length r'; simp; omega
        go_upto_region 4 with fail
        go_region_held3 (fun w' => w'.cell? ⟨w.heap.size, 1, none⟩ = some (.int .i64 (r' : Int)) ∧ w'.cell? ⟨w.heap.size, 2, none⟩ = some (.int .i64 (c' : Int))) (go_keep)
          (first
            | (go_at_call_of 57 v1; (try rw [er]); (refine (putUint_of v1 _ r' base _ (OwnB.drew HO1.out) hB1 hL1 hR64).mono ?_); rintro e w2 ⟨v2, rfl, ho2, hw2⟩; have HO2 := Lib.hid ho2; have HW2 := Lib.hid hw2; have HB2 := Lib.hid ((HB1.out.ext (Ext.refl _).drew).wr hw2); obtain ⟨d0, d1, d2, d3, d4, d5, d6, d7, _⟩ := HB2.out.box.cells; simp only [Nat.zero_add, Nat.reduceAdd] at d0 d1 d2 d3 d4 d5 d6 d7; have hB2 : base ≤ w2.heap.size := Nat.le_trans hB1 hw2.size; clear ho2 hw2)
            | (go_at_call_of 57 v2; (try rw [ec]); (refine (putUint_of v2 _ c' base _ HO2.out hB2 hL2 hC64).mono ?_); rintro e w3 ⟨v3, rfl, ho3, hw3⟩; have HO3 := Lib.hid ho3; have HW3 := Lib.hid hw3; have HB3 := Lib.hid (HB2.out.wr hw3); obtain ⟨f0, f1, f2, f3, f4, f5, f6, f7, _⟩ := HB3.out.box.cells; simp only [Nat.zero_add, Nat.reduceAdd] at f0 f1 f2 f3 f4 f5 f6 f7; clear ho3 hw3)
            | (go_at_call_of 57 v2; (try rw [ec]); (refine (putUint_of v2 _ c' base _ (OwnB.drew HO2.out) hB2 hL2 hC64).mono ?_); rintro e w3 ⟨v3, rfl, ho3, hw3⟩; have HO3 := Lib.hid ho3; have HW3 := Lib.hid hw3; have HB3 := Lib.hid ((HB2.out.ext (Ext.refl _).drew).wr hw3); obtain ⟨f0, f1, f2, f3, f4, f5, f6, f7, _⟩ := HB3.out.box.cells; simp only [Nat.zero_add, Nat.reduceAdd] at f0 f1 f2 f3 f4 f5 f6 f7; clear ho3 hw3))
        all_goals
          go_wp2_with fail
          go_meet
          have h3 := HO3.out
          refine ⟨?_, HB3.out, ?_⟩
          · simpa [headPut, List.append_assoc] using h3
          · exact ((((Wr.refl _ _ _).alloc _).trans HW1.out).drew.trans HW2.out).trans HW3.out
      · have hB1 : base ≤ w1.heap.size := by simp at hbw1; omega
        go_wp2_with (first
          | (go_at_call 23; refine (putV_of v1 _ v base _ HO1.out hB1 (by simp; omega) HV.out).mono ?_; rintro e w2 ⟨v2, rfl, ho2, hw2⟩))
        all_goals
          go_meet
        · rename_i h2
          have h2' : k = 2 := by simpa using h2
          subst h2'
          refine ⟨?_, HB1.out.wr hw2, ?_⟩
          · simpa [headPut, List.append_assoc] using ho2
          · exact (((Wr.refl _ _ _).alloc _).trans HW1.out).trans hw2
        · rename_i h2
          have h2' : ¬ k = 2 := by simpa using h2
          refine ⟨?_, HB1.out, ?_⟩
          · simp only [headPut, if_neg k1, if_neg h2']; exact HO1.out
          · exact ((Wr.refl _ _ _).alloc _).trans HW1.out
    case rest =>
      clear HO1 HW1 HB1 hx0 hb0
      obtain ⟨ho, hb, hw⟩ := hcut
      have HB := Lib.hid hb; have HO := Lib.hid ho; have HW := Lib.hid hw; have hx4 := hb.box.cells.2.2.2.2.2.2.2.1; simp only [Nat.zero_add, Nat.reduceAdd] at hx4
      clear ho hb hw
      go_wp2_with fail
      go_loopw [0, 35] (fun s0 s35 wr => ∃ i : Nat, s35 = .int .i64 (i : Int) ∧ i ≤ l.length ∧ OwnB wr base s0 (b ++ k.toNat :: (headPut k r c v ++ Exs.put (l.take i))) ∧ Wr 5 base w wr ∧ (Exs.put (l.take i)).length ≤ 101 * Exs.nodes (l.take i)) (fun _ s _ => l.length - (intOf s).toNat)
      case atStart =>
        exact ⟨0, rfl, by omega, by simpa [Exs.put] using HO.out, HW.out, by simp [Exs.put]⟩
      case round =>
        rename_i hrel
        obtain ⟨i, rfl, hi, ho, hw, hle⟩ := hrel
        have hbr : base ≤ wr.heap.size := Nat.le_trans hbw hw.size
        have hEr := HE.out.trans_wr hw hW0
        by_cases hlt : i < l.length
        · have hlt' : (i : Int) < (l.length : Int) := by omega
          have hwp : wrap64 ((i : Int) + 1) = (i : Int) + 1 := by unfold wrap64; omega
          obtain ⟨g, o, s', rfl, _, hat, hin2, hg⟩ := HIN.out.get i hlt
          obtain ⟨_, A', cap', rfl, _⟩ := (Ex.In.mk_inv hin2).2.2.2.2
          have htk := Exs.put_take hlt
          have hnt := Exs.nodes_take hlt
          have hnl := Exs.nodes_take_le l (i + 1)
          have hcall := Lib.hid (fun bv' w' (h1 : Ext W0 w') (h2 : base ≤ w'.heap.size) (h3 : OwnB w' base bv' (b ++ k.toNat :: (headPut k r c v ++ Exs.put (l.take i)))) => IH.out l[i] (List.getElem_mem hlt) (.slice A' l[i].kids.length cap') bv' _ w' hin2 (HL.out _ (List.getElem_mem hlt)) h1 h2 h3 (by have := HLH.out; simp only [List.length_append, List.length_cons]; omega))
          have HAT := Lib.hid (hat.ext hEr hg); have HO := Lib.hid ho; have HW := Lib.hid hw; have HEr := Lib.hid hEr; have HTK := Lib.hid htk
          clear hat hin2 IH ho hw hEr htk
          unfold Ex.cells exCells at HAT hcall
          generalize Exs.put (l.take i) = x at *
          generalize l[i] = e at *
          have HC := Lib.hid (fun o => hcall.out u0 (wr.alloc o) (HEr.out.alloc o) (Nat.le_trans hbr ((Ext.refl wr).alloc o).size) (HO.out.alloc o))
          have HLE := Lib.hid hle; have HNT := Lib.hid hnt; have HBR := Lib.hid hbr
          clear hcall hle hnt hnl hbr hbw1 hlen hx4 HB hR HV hkn hbw hg
          rename_i hl1 hl2
          clear hl1 hl2
          go_wp2_with (first
            | (refine wpList_wish rfl fun K hK => wp_idxS (i := i) Try.underlying25 size_ex (.tmp 33) _ rfl rfl rfl hlt (hK _ _ ?_))
            | (refine wpList_wish rfl fun K hK => wp_loadA (vs := [.int .i64 e.kind, .int .i64 e.rel, .int .i64 e.col, .int .i64 e.const.kind, .int .i64 e.const.int, .float .f64 e.const.flt, .string e.const.text, .slice A' e.kids.length cap']) agg_ex (.tmp 37) rfl rfl HAT.out (hK _ _ ?_))
            | (refine wpList_wish rfl fun K hK => wp_loadA (vs := [.int .i64 e.kind, .int .i64 e.rel, .int .i64 e.col, .int .i64 e.const.kind, .int .i64 e.const.int, .float .f64 e.const.flt, .string e.const.text, .slice A' e.kids.length cap']) agg_ex (.tmp 6) rfl rfl (At.new rfl _ _ _ rfl) (hK _ _ ?_))
            | (go_at_call 17; refine (HC.out _).mono ?_; rintro ev w2 ⟨v2, rfl, ho2, hw2, hl2⟩))
          refine ⟨⟨i + 1, by simp, by omega, ?_, (HW.out.alloc _).trans hw2, ?_⟩, by simp only [intOf]; omega⟩
          · rw [HTK.out]; simpa only [List.append_assoc, List.cons_append] using ho2
          · have h5 := HLE.out; have h6 := HNT.out; rw [HTK.out, List.length_append]; omega
        · have hlt' : ¬ ((i : Int) < (l.length : Int)) := by omega
          obtain rfl : i = l.length := by omega
          rw [List.take_length] at ho hle
          go_wp2_with fail
          exact HPP.out _ _ ho hw hle
end Go.Proofs.Ytlcdjaclahhdnaa
