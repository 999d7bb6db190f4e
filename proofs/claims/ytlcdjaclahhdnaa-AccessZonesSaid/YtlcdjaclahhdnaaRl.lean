/- The call of expr.Rels. -/
import Derived.Test.YtlcdjaclahhdnaaEv
namespace Go.Proofs.Ytlcdjaclahhdnaa
open Go.RowKit
set_option linter.unusedSimpArgs false
set_option linter.unusedVariables false

theorem wrap_u32 (n : Int) : IntKind.u32.wrap n = n % 4294967296 := by simp [IntKind.wrap, IntKind.bits, IntKind.signed]
theorem bits_or_u32 (a b : Nat) (ha : a < 4294967296) (hb : b < 4294967296) : bits .or .u32 (a : Int) (b : Int) = ((a ||| b : Nat) : Int) := by
  have hx : a ||| b < 2 ^ 32 := Nat.or_lt_two_pow (by omega) (by omega)
  have h1 : (BitVec.ofInt 32 (a : Int)).toNat = a := by
    rw [BitVec.ofInt_natCast, BitVec.toNat_ofNat]; exact Nat.mod_eq_of_lt (by omega)
  have h2 : (BitVec.ofInt 32 (b : Int)).toNat = b := by
    rw [BitVec.ofInt_natCast, BitVec.toNat_ofNat]; exact Nat.mod_eq_of_lt (by omega)
  show IntKind.u32.wrap ((BitVec.ofInt 32 (a : Int) ||| BitVec.ofInt 32 (b : Int)).toNat : Int) = _
  rw [BitVec.toNat_or, h1, h2, wrap_u32]
  omega
/-- The bit of a head. -/
def headRel (k r : Int) : Nat := if k = 1 ∧ 0 ≤ r ∧ r ≤ 31 then 2 ^ r.toNat else 0
mutual
/-- The relations that are named, as bits. -/
def Ex.rels : Ex → Nat
  | .mk k r _ _ l => headRel k r ||| Exs.rels l
termination_by structural e => e
def Exs.rels : List Ex → Nat
  | [] => 0
  | e :: l => e.rels ||| Exs.rels l
termination_by structural l => l
end
theorem headRel_lt (k r : Int) : headRel k r < 4294967296 := by
  unfold headRel
  split
  · rename_i h
    have h1 : r.toNat ≤ 31 := by omega
    have : 2 ^ r.toNat ≤ 2 ^ 31 := Nat.pow_le_pow_right (by decide) h1
    omega
  · decide
theorem or_lt32 {a b : Nat} (ha : a < 4294967296) (hb : b < 4294967296) : a ||| b < 4294967296 := by
  have : a ||| b < 2 ^ 32 := Nat.or_lt_two_pow (by omega) (by omega)
  omega
theorem Exs.rels_lt (l : List Ex) (ih : ∀ e ∈ l, e.rels < 4294967296) : Exs.rels l < 4294967296 := by
  induction l with
  | nil => simp [Exs.rels]
  | cons e l ih2 =>
    simp only [Exs.rels]
    exact or_lt32 (ih e (by simp)) (ih2 fun e he => ih e (by simp [he]))
theorem Ex.rels_lt : ∀ e : Ex, e.rels < 4294967296 := by
  intro e
  induction e using Ex.ind with
  | h k r c v l ih =>
    simp only [Ex.rels]
    exact or_lt32 (headRel_lt k r) (Exs.rels_lt l ih)
theorem Exs.rels_take {l : List Ex} {i : Nat} (hi : i < l.length) : Exs.rels (l.take (i + 1)) = Exs.rels (l.take i) ||| l[i].rels := by
  induction l generalizing i with
  | nil => simp at hi
  | cons e l ih =>
    cases i with
    | zero => simp [Exs.rels]
    | succ i =>
      simp only [List.take_succ_cons, Exs.rels, List.getElem_cons_succ]
      rw [ih (by simpa using hi), Nat.or_assoc]
theorem Exs.rels_take_lt (l : List Ex) (i : Nat) : Exs.rels (l.take i) < 4294967296 := Exs.rels_lt _ fun e _ => e.rels_lt
theorem shl_u32 : ∀ R : Fin 32, IntKind.u32.wrap (2 ^ (R.val : Nat)) = ((2 ^ R.val : Nat) : Int) := by decide +kernel

set_option maxRecDepth 100000 in
set_option maxHeartbeats 2000000 in
theorem rels_of : ∀ (e : Ex) (s : Value) (w : World), Ex.In w e s →
    Calls Try.prog 33 #[.agg (e.cells s).toArray] w fun ev w' => ev = .returned (.int .u32 (e.rels : Int)) ∧ Ext w w' := by
  intro e
  induction e using Ex.ind with
  | h k r c v l ih =>
    intro s w hin
    obtain ⟨hk, hr, hc, hv⟩ := hin.fields
    obtain ⟨hlm, A, cap, rfl, hkr⟩ := hin.kids
    show Calls Try.prog 33 #[.agg (exCells k r c v (.slice A l.length cap)).toArray] w fun ev w' => ev = .returned (.int .u32 ((Ex.mk k r c v l).rels : Int)) ∧ Ext w w'
    simp only [Ex.rels]
    have HIN := Lib.hid hin.kids; have IH := Lib.hid ih
    have h0 := Lib.hid (BoxAt.new (w := w) rfl (vs := exCells k r c v (.slice A l.length cap)) (t := 27) rfl)
    have hlt0 := headRel_lt k r
    obtain ⟨hd, HH⟩ : ∃ hd, hd = headRel k r := ⟨_, rfl⟩
    rw [← HH] at hlt0 ⊢
    have HZ := Lib.hid HH; clear HH
    unfold exCells
    by_cases hh : k = 1 ∧ 0 ≤ r ∧ r ≤ 31
    · obtain ⟨rfl, hr0, hr1⟩ := hh
      obtain ⟨R, rfl⟩ : ∃ R : Nat, r = (R : Int) := ⟨r.toNat, by omega⟩
      have HS := Lib.hid (shl_u32 ⟨R, by omega⟩)
      clear hin ih hkr hk hr hc hv h0
      go_enter Try.func33, Try.ntmps33
      go_wp2_with fail
      go_loopw [3, 26] (fun x y wr => ∃ i : Nat, y = .int .i64 (i : Int) ∧ x = .int .u32 ((hd ||| Exs.rels (l.take i) : Nat) : Int) ∧ i ≤ l.length ∧ Ext w wr) (fun _ y _ => l.length - (intOf y).toNat)
      case atStart =>
        refine ⟨0, rfl, ?_, by omega, (Ext.refl w).alloc _⟩
        simp only [List.take_zero, Exs.rels, Nat.or_zero]
        have h2 := HS.out
        rw [wrap_u32] at h2
        rw [HZ.out]; unfold headRel; rw [if_pos ⟨rfl, hr0, hr1⟩]
        simp only [Int.toNat_natCast]
        exact congrArg _ h2
      case round =>
        rename_i hrel
        obtain ⟨i, rfl, rfl, hi, hE⟩ := hrel
        by_cases hlt : i < l.length
        · have hlt' : (i : Int) < (l.length : Int) := by omega
          have hw : wrap64 ((i : Int) + 1) = (i : Int) + 1 := by unfold wrap64; omega
          obtain ⟨g, o, s', rfl, _, hat, hin2, hg⟩ := (HIN.out.ext hE).get i hlt
          have hlta := Exs.rels_take_lt l i
          have hltb := Ex.rels_lt l[i]
          have HD : Hid (bits .or .u32 ((hd ||| Exs.rels (l.take i) : Nat) : Int) (l[i].rels : Int) = ((hd ||| Exs.rels (l.take (i + 1)) : Nat) : Int)) := Lib.hid (by rw [bits_or_u32 _ _ (or_lt32 hlt0 hlta) hltb, Exs.rels_take hlt, Nat.or_assoc])
          obtain ⟨_, A', cap', rfl, _⟩ := (Ex.In.mk_inv hin2).2.2.2.2
          have hcall := Lib.hid (fun w (h : Ex.In w l[i] (.slice A' l[i].kids.length cap')) => IH.out l[i] (List.getElem_mem hlt) (.slice A' l[i].kids.length cap') w h)
          have HAT := Lib.hid hat; have HIN2 := Lib.hid hin2
          clear hat hin2 IH hlta hltb
          unfold Ex.cells exCells at HAT hcall
          generalize (hd ||| Exs.rels (l.take i)) = x at *
          generalize l[i] = e at *
          generalize e.rels = y at *
          go_wp2_with (first
            | (refine wpList_wish rfl fun K hK => wp_idxS (i := i) Try.underlying25 size_ex (.tmp 24) _ rfl rfl rfl hlt (hK _ _ ?_))
            | (refine wpList_wish rfl fun K hK => wp_loadA (vs := [.int .i64 e.kind, .int .i64 e.rel, .int .i64 e.col, .int .i64 e.const.kind, .int .i64 e.const.int, .float .f64 e.const.flt, .string e.const.text, .slice A' e.kids.length cap']) agg_ex (.tmp 28) rfl rfl HAT.out (hK _ _ ?_))
            | (refine wpList_wish rfl fun K hK => wp_loadA (vs := [.int .i64 e.kind, .int .i64 e.rel, .int .i64 e.col, .int .i64 e.const.kind, .int .i64 e.const.int, .float .f64 e.const.flt, .string e.const.text, .slice A' e.kids.length cap']) agg_ex (.tmp 5) rfl rfl (At.new rfl _ _ _ rfl) (hK _ _ ?_))
            | (go_at_call 33; refine (hcall.out _ (Ex.In.ext ((Ext.refl _).alloc _) _ _ HIN2.out)).mono ?_; rintro ev w2 ⟨rfl, hb⟩))
          refine ⟨⟨i + 1, by simp, by rw [HD.out], by omega, hE.trans (((Ext.refl _).alloc _).trans hb)⟩, by simp [intOf] <;> omega⟩
        · have hlt' : ¬ ((i : Int) < (l.length : Int)) := by omega
          obtain rfl : i = l.length := by omega
          go_wp2_with fail
          go_ret
          exact ⟨rfl, hE⟩
    · have HX : Hid (hd = 0) := Lib.hid (by rw [HZ.out]; unfold headRel; rw [if_neg hh])
      by_cases h1 : k = 1
      · subst h1
        by_cases h2 : 0 ≤ r
        · have h3 : ¬ r ≤ 31 := fun h3 => hh ⟨rfl, h2, h3⟩
          clear hin ih hkr hk hr hc hv h0 hh
          go_enter Try.func33, Try.ntmps33
          go_wp2_with fail
          go_loopw [3, 26] (fun x y wr => ∃ i : Nat, y = .int .i64 (i : Int) ∧ x = .int .u32 ((hd ||| Exs.rels (l.take i) : Nat) : Int) ∧ i ≤ l.length ∧ Ext w wr) (fun _ y _ => l.length - (intOf y).toNat)
          case atStart =>
            refine ⟨0, rfl, ?_, by omega, (Ext.refl w).alloc _⟩
            simp only [List.take_zero, Exs.rels, Nat.or_zero]
            rw [HX.out]; rfl
          case round =>
            rename_i hrel
            obtain ⟨i, rfl, rfl, hi, hE⟩ := hrel
            by_cases hlt : i < l.length
            · have hlt' : (i : Int) < (l.length : Int) := by omega
              have hw : wrap64 ((i : Int) + 1) = (i : Int) + 1 := by unfold wrap64; omega
              obtain ⟨g, o, s', rfl, _, hat, hin2, hg⟩ := (HIN.out.ext hE).get i hlt
              have hlta := Exs.rels_take_lt l i
              have hltb := Ex.rels_lt l[i]
              have HD : Hid (bits .or .u32 ((hd ||| Exs.rels (l.take i) : Nat) : Int) (l[i].rels : Int) = ((hd ||| Exs.rels (l.take (i + 1)) : Nat) : Int)) := Lib.hid (by rw [bits_or_u32 _ _ (or_lt32 hlt0 hlta) hltb, Exs.rels_take hlt, Nat.or_assoc])
              obtain ⟨_, A', cap', rfl, _⟩ := (Ex.In.mk_inv hin2).2.2.2.2
              have hcall := Lib.hid (fun w (h : Ex.In w l[i] (.slice A' l[i].kids.length cap')) => IH.out l[i] (List.getElem_mem hlt) (.slice A' l[i].kids.length cap') w h)
              have HAT := Lib.hid hat; have HIN2 := Lib.hid hin2
              clear hat hin2 IH hlta hltb
              unfold Ex.cells exCells at HAT hcall
              generalize (hd ||| Exs.rels (l.take i)) = x at *
              generalize l[i] = e at *
              generalize e.rels = y at *
              go_wp2_with (first
                | (refine wpList_wish rfl fun K hK => wp_idxS (i := i) Try.underlying25 size_ex (.tmp 24) _ rfl rfl rfl hlt (hK _ _ ?_))
                | (refine wpList_wish rfl fun K hK => wp_loadA (vs := [.int .i64 e.kind, .int .i64 e.rel, .int .i64 e.col, .int .i64 e.const.kind, .int .i64 e.const.int, .float .f64 e.const.flt, .string e.const.text, .slice A' e.kids.length cap']) agg_ex (.tmp 28) rfl rfl HAT.out (hK _ _ ?_))
                | (refine wpList_wish rfl fun K hK => wp_loadA (vs := [.int .i64 e.kind, .int .i64 e.rel, .int .i64 e.col, .int .i64 e.const.kind, .int .i64 e.const.int, .float .f64 e.const.flt, .string e.const.text, .slice A' e.kids.length cap']) agg_ex (.tmp 5) rfl rfl (At.new rfl _ _ _ rfl) (hK _ _ ?_))
                | (go_at_call 33; refine (hcall.out _ (Ex.In.ext ((Ext.refl _).alloc _) _ _ HIN2.out)).mono ?_; rintro ev w2 ⟨rfl, hb⟩))
              refine ⟨⟨i + 1, by simp, by rw [HD.out], by omega, hE.trans (((Ext.refl _).alloc _).trans hb)⟩, by simp [intOf] <;> omega⟩
            · have hlt' : ¬ ((i : Int) < (l.length : Int)) := by omega
              obtain rfl : i = l.length := by omega
              go_wp2_with fail
              go_ret
              exact ⟨rfl, hE⟩
        · have h3 : ¬ 0 ≤ r := h2
          clear hin ih hkr hk hr hc hv h0 hh
          go_enter Try.func33, Try.ntmps33
          go_wp2_with fail
          go_loopw [3, 26] (fun x y wr => ∃ i : Nat, y = .int .i64 (i : Int) ∧ x = .int .u32 ((hd ||| Exs.rels (l.take i) : Nat) : Int) ∧ i ≤ l.length ∧ Ext w wr) (fun _ y _ => l.length - (intOf y).toNat)
          case atStart =>
            refine ⟨0, rfl, ?_, by omega, (Ext.refl w).alloc _⟩
            simp only [List.take_zero, Exs.rels, Nat.or_zero]
            rw [HX.out]; rfl
          case round =>
            rename_i hrel
            obtain ⟨i, rfl, rfl, hi, hE⟩ := hrel
            by_cases hlt : i < l.length
            · have hlt' : (i : Int) < (l.length : Int) := by omega
              have hw : wrap64 ((i : Int) + 1) = (i : Int) + 1 := by unfold wrap64; omega
              obtain ⟨g, o, s', rfl, _, hat, hin2, hg⟩ := (HIN.out.ext hE).get i hlt
              have hlta := Exs.rels_take_lt l i
              have hltb := Ex.rels_lt l[i]
              have HD : Hid (bits .or .u32 ((hd ||| Exs.rels (l.take i) : Nat) : Int) (l[i].rels : Int) = ((hd ||| Exs.rels (l.take (i + 1)) : Nat) : Int)) := Lib.hid (by rw [bits_or_u32 _ _ (or_lt32 hlt0 hlta) hltb, Exs.rels_take hlt, Nat.or_assoc])
              obtain ⟨_, A', cap', rfl, _⟩ := (Ex.In.mk_inv hin2).2.2.2.2
              have hcall := Lib.hid (fun w (h : Ex.In w l[i] (.slice A' l[i].kids.length cap')) => IH.out l[i] (List.getElem_mem hlt) (.slice A' l[i].kids.length cap') w h)
              have HAT := Lib.hid hat; have HIN2 := Lib.hid hin2
              clear hat hin2 IH hlta hltb
              unfold Ex.cells exCells at HAT hcall
              generalize (hd ||| Exs.rels (l.take i)) = x at *
              generalize l[i] = e at *
              generalize e.rels = y at *
              go_wp2_with (first
                | (refine wpList_wish rfl fun K hK => wp_idxS (i := i) Try.underlying25 size_ex (.tmp 24) _ rfl rfl rfl hlt (hK _ _ ?_))
                | (refine wpList_wish rfl fun K hK => wp_loadA (vs := [.int .i64 e.kind, .int .i64 e.rel, .int .i64 e.col, .int .i64 e.const.kind, .int .i64 e.const.int, .float .f64 e.const.flt, .string e.const.text, .slice A' e.kids.length cap']) agg_ex (.tmp 28) rfl rfl HAT.out (hK _ _ ?_))
                | (refine wpList_wish rfl fun K hK => wp_loadA (vs := [.int .i64 e.kind, .int .i64 e.rel, .int .i64 e.col, .int .i64 e.const.kind, .int .i64 e.const.int, .float .f64 e.const.flt, .string e.const.text, .slice A' e.kids.length cap']) agg_ex (.tmp 5) rfl rfl (At.new rfl _ _ _ rfl) (hK _ _ ?_))
                | (go_at_call 33; refine (hcall.out _ (Ex.In.ext ((Ext.refl _).alloc _) _ _ HIN2.out)).mono ?_; rintro ev w2 ⟨rfl, hb⟩))
              refine ⟨⟨i + 1, by simp, by rw [HD.out], by omega, hE.trans (((Ext.refl _).alloc _).trans hb)⟩, by simp [intOf] <;> omega⟩
            · have hlt' : ¬ ((i : Int) < (l.length : Int)) := by omega
              obtain rfl : i = l.length := by omega
              go_wp2_with fail
              go_ret
              exact ⟨rfl, hE⟩
      · have h3 : (k == 1) = false := by simpa using h1
        clear hin ih hkr hk hr hc hv h0 hh
        go_enter Try.func33, Try.ntmps33
        go_wp2_with fail
        go_loopw [3, 26] (fun x y wr => ∃ i : Nat, y = .int .i64 (i : Int) ∧ x = .int .u32 ((hd ||| Exs.rels (l.take i) : Nat) : Int) ∧ i ≤ l.length ∧ Ext w wr) (fun _ y _ => l.length - (intOf y).toNat)
        case atStart =>
          refine ⟨0, rfl, ?_, by omega, (Ext.refl w).alloc _⟩
          simp only [List.take_zero, Exs.rels, Nat.or_zero]
          rw [HX.out]; rfl
        case round =>
          rename_i hrel
          obtain ⟨i, rfl, rfl, hi, hE⟩ := hrel
          by_cases hlt : i < l.length
          · have hlt' : (i : Int) < (l.length : Int) := by omega
            have hw : wrap64 ((i : Int) + 1) = (i : Int) + 1 := by unfold wrap64; omega
            obtain ⟨g, o, s', rfl, _, hat, hin2, hg⟩ := (HIN.out.ext hE).get i hlt
            have hlta := Exs.rels_take_lt l i
            have hltb := Ex.rels_lt l[i]
            have HD : Hid (bits .or .u32 ((hd ||| Exs.rels (l.take i) : Nat) : Int) (l[i].rels : Int) = ((hd ||| Exs.rels (l.take (i + 1)) : Nat) : Int)) := Lib.hid (by rw [bits_or_u32 _ _ (or_lt32 hlt0 hlta) hltb, Exs.rels_take hlt, Nat.or_assoc])
            obtain ⟨_, A', cap', rfl, _⟩ := (Ex.In.mk_inv hin2).2.2.2.2
            have hcall := Lib.hid (fun w (h : Ex.In w l[i] (.slice A' l[i].kids.length cap')) => IH.out l[i] (List.getElem_mem hlt) (.slice A' l[i].kids.length cap') w h)
            have HAT := Lib.hid hat; have HIN2 := Lib.hid hin2
            clear hat hin2 IH hlta hltb
            unfold Ex.cells exCells at HAT hcall
            generalize (hd ||| Exs.rels (l.take i)) = x at *
            generalize l[i] = e at *
            generalize e.rels = y at *
            go_wp2_with (first
              | (refine wpList_wish rfl fun K hK => wp_idxS (i := i) Try.underlying25 size_ex (.tmp 24) _ rfl rfl rfl hlt (hK _ _ ?_))
              | (refine wpList_wish rfl fun K hK => wp_loadA (vs := [.int .i64 e.kind, .int .i64 e.rel, .int .i64 e.col, .int .i64 e.const.kind, .int .i64 e.const.int, .float .f64 e.const.flt, .string e.const.text, .slice A' e.kids.length cap']) agg_ex (.tmp 28) rfl rfl HAT.out (hK _ _ ?_))
              | (refine wpList_wish rfl fun K hK => wp_loadA (vs := [.int .i64 e.kind, .int .i64 e.rel, .int .i64 e.col, .int .i64 e.const.kind, .int .i64 e.const.int, .float .f64 e.const.flt, .string e.const.text, .slice A' e.kids.length cap']) agg_ex (.tmp 5) rfl rfl (At.new rfl _ _ _ rfl) (hK _ _ ?_))
              | (go_at_call 33; refine (hcall.out _ (Ex.In.ext ((Ext.refl _).alloc _) _ _ HIN2.out)).mono ?_; rintro ev w2 ⟨rfl, hb⟩))
            refine ⟨⟨i + 1, by simp, by rw [HD.out], by omega, hE.trans (((Ext.refl _).alloc _).trans hb)⟩, by simp [intOf] <;> omega⟩
          · have hlt' : ¬ ((i : Int) < (l.length : Int)) := by omega
            obtain rfl : i = l.length := by omega
            go_wp2_with fail
            go_ret
            exact ⟨rfl, hE⟩
end Go.Proofs.Ytlcdjaclahhdnaa
