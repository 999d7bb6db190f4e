/- The calls of tabularyref22.Rels, tabularyref22.in, expr.Sides$1. Printed by wip/tools/gen_relsr.py. -/
import Derived.Test.YtlcdjaclahhdnaaRl
namespace Go.Proofs.Ytlcdjaclahhdnaa
open Go.RowKit
set_option linter.unusedSimpArgs false
set_option linter.unusedVariables false

set_option maxRecDepth 100000 in
set_option maxHeartbeats 2000000 in
theorem rrels_of : ∀ (e : Ex) (s : Value) (w : World), Ex.In w e s →
    Calls Try.prog 40 #[.agg (e.cells s).toArray] w fun ev w' => ev = .returned (.int .u32 (e.rels : Int)) ∧ Ext w w' := by
  intro e
  induction e using Ex.ind with
  | h k r c v l ih =>
    intro s w hin
    obtain ⟨hk, hr, hc, hv⟩ := hin.fields
    obtain ⟨hlm, A, cap, rfl, hkr⟩ := hin.kids
    show Calls Try.prog 40 #[.agg (exCells k r c v (.slice A l.length cap)).toArray] w fun ev w' => ev = .returned (.int .u32 ((Ex.mk k r c v l).rels : Int)) ∧ Ext w w'
    simp only [Ex.rels]
    have HIN := Lib.hid hin.kids; have IH := Lib.hid ih
    have h0 := Lib.hid (BoxAt.new (w := w) rfl (vs := exCells k r c v (.slice A l.length cap)) (t := 27) rfl)
    have hlt0 := headRel_lt k r
    obtain ⟨hd, HH⟩ : ∃ hd, hd = headRel k r := ⟨_, rfl⟩
    rw [← HH] at hlt0 ⊢
    have HZ := Lib.hid HH; clear HH
    unfold exCells at *
    by_cases hh : k = 1 ∧ 0 ≤ r ∧ r ≤ 31
    · obtain ⟨rfl, hr0, hr1⟩ := hh
      obtain ⟨R, rfl⟩ : ∃ R : Nat, r = (R : Int) := ⟨r.toNat, by omega⟩
      have HS := Lib.hid (shl_u32 ⟨R, by omega⟩)
      clear hin ih hkr hk hr hc hv
      go_enter Try.func40, Try.ntmps40
      go_wp2_with fail
      go_loopw [3, 4] (fun x y wr => ∃ i : Nat, y = .int .i64 (i : Int) ∧ x = .int .u32 ((hd ||| Exs.rels (l.take i) : Nat) : Int) ∧ i ≤ l.length ∧ BoxAt wr w.heap.size ([.int .i64 1, .int .i64 (R : Int), .int .i64 c, .int .i64 v.kind, .int .i64 v.int, .float .f64 v.flt, .string v.text, .slice A l.length cap]) ∧ Ext w wr) (fun _ y _ => l.length - (intOf y).toNat)
      case atStart =>
        refine ⟨0, rfl, ?_, by omega, h0.out, (Ext.refl w).alloc _⟩
        simp only [List.take_zero, Exs.rels, Nat.or_zero]
        have h2 := HS.out
        rw [wrap_u32] at h2
        rw [HZ.out]; unfold headRel; rw [if_pos ⟨rfl, hr0, hr1⟩]
        simp only [Int.toNat_natCast]
        exact congrArg _ h2
      case round =>
        rename_i hrel
        obtain ⟨i, rfl, rfl, hi, hb, hE⟩ := hrel
        have HB := Lib.hid hb
        have b7 := hb.cells.get 7 _ rfl
        simp only [Nat.zero_add] at b7
        clear hb
        by_cases hlt : i < l.length
        · have hlt' : (i : Int) < (l.length : Int) := by omega
          have hw : wrap64 ((i : Int) + 1) = (i : Int) + 1 := by unfold wrap64; omega
          obtain ⟨g, o, s', rfl, _, hat, hin2, hg⟩ := (HIN.out.ext hE).get i hlt
          have hlta := Exs.rels_take_lt l i
          have hltb := Ex.rels_lt l[i]
          have HD : Hid (bits .or .u32 ((hd ||| Exs.rels (l.take i) : Nat) : Int) (l[i].rels : Int) = ((hd ||| Exs.rels (l.take (i + 1)) : Nat) : Int)) := Lib.hid (by rw [bits_or_u32 _ _ (or_lt32 hlt0 hlta) hltb, Exs.rels_take hlt, Nat.or_assoc])
          obtain ⟨_, A', cap', rfl, _⟩ := (Ex.In.mk_inv hin2).2.2.2.2
          have hcall := Lib.hid (IH.out l[i] (List.getElem_mem hlt) (.slice A' l[i].kids.length cap') wr hin2)
          have HAT := Lib.hid hat
          clear hat hin2 IH hlta hltb
          unfold Ex.cells exCells at HAT hcall
          generalize (hd ||| Exs.rels (l.take i)) = x at *
          generalize l[i] = e at *
          generalize e.rels = y at *
          go_wp2_with (first
            | (refine wpList_wish rfl fun K hK => wp_idxS (i := i) Try.underlying25 size_ex (.tmp 31) _ rfl rfl rfl hlt (hK _ _ ?_))
            | (refine wpList_wish rfl fun K hK => wp_loadA (vs := [.int .i64 e.kind, .int .i64 e.rel, .int .i64 e.col, .int .i64 e.const.kind, .int .i64 e.const.int, .float .f64 e.const.flt, .string e.const.text, .slice A' e.kids.length cap']) agg_ex (.tmp 33) rfl rfl HAT.out (hK _ _ ?_))
            | (go_at_call 40; refine hcall.out.mono ?_; rintro ev w2 ⟨rfl, hb⟩))
          refine ⟨⟨i + 1, by simp, by rw [HD.out], by omega, HB.out.ext hb, hE.trans hb⟩, by simp [intOf] <;> omega⟩
        · have hlt' : ¬ ((i : Int) < (l.length : Int)) := by omega
          obtain rfl : i = l.length := by omega
          rw [List.take_length]
          go_wp2_with fail
          go_ret
          exact ⟨rfl, hE⟩
    · have HX : Hid (hd = 0) := Lib.hid (by rw [HZ.out]; unfold headRel; rw [if_neg hh])
      by_cases h1 : k = 1
      · subst h1
        by_cases h2 : 0 ≤ r
        · have h3 : ¬ r ≤ 31 := fun h3 => hh ⟨rfl, h2, h3⟩
          clear hin ih hkr hk hr hc hv hh
          go_enter Try.func40, Try.ntmps40
          go_wp2_with fail
          go_loopw [3, 4] (fun x y wr => ∃ i : Nat, y = .int .i64 (i : Int) ∧ x = .int .u32 ((hd ||| Exs.rels (l.take i) : Nat) : Int) ∧ i ≤ l.length ∧ BoxAt wr w.heap.size ([.int .i64 1, .int .i64 r, .int .i64 c, .int .i64 v.kind, .int .i64 v.int, .float .f64 v.flt, .string v.text, .slice A l.length cap]) ∧ Ext w wr) (fun _ y _ => l.length - (intOf y).toNat)
          case atStart =>
            exact ⟨0, rfl, by simp only [List.take_zero, Exs.rels, Nat.or_zero]; rw [HX.out]; rfl, by omega, h0.out, (Ext.refl w).alloc _⟩
          case round =>
            rename_i hrel
            obtain ⟨i, rfl, rfl, hi, hb, hE⟩ := hrel
            have HB := Lib.hid hb
            have b7 := hb.cells.get 7 _ rfl
            simp only [Nat.zero_add] at b7
            clear hb
            by_cases hlt : i < l.length
            · have hlt' : (i : Int) < (l.length : Int) := by omega
              have hw : wrap64 ((i : Int) + 1) = (i : Int) + 1 := by unfold wrap64; omega
              obtain ⟨g, o, s', rfl, _, hat, hin2, hg⟩ := (HIN.out.ext hE).get i hlt
              have hlta := Exs.rels_take_lt l i
              have hltb := Ex.rels_lt l[i]
              have HD : Hid (bits .or .u32 ((hd ||| Exs.rels (l.take i) : Nat) : Int) (l[i].rels : Int) = ((hd ||| Exs.rels (l.take (i + 1)) : Nat) : Int)) := Lib.hid (by rw [bits_or_u32 _ _ (or_lt32 hlt0 hlta) hltb, Exs.rels_take hlt, Nat.or_assoc])
              obtain ⟨_, A', cap', rfl, _⟩ := (Ex.In.mk_inv hin2).2.2.2.2
              have hcall := Lib.hid (IH.out l[i] (List.getElem_mem hlt) (.slice A' l[i].kids.length cap') wr hin2)
              have HAT := Lib.hid hat
              clear hat hin2 IH hlta hltb
              unfold Ex.cells exCells at HAT hcall
              generalize (hd ||| Exs.rels (l.take i)) = x at *
              generalize l[i] = e at *
              generalize e.rels = y at *
              go_wp2_with (first
                | (refine wpList_wish rfl fun K hK => wp_idxS (i := i) Try.underlying25 size_ex (.tmp 31) _ rfl rfl rfl hlt (hK _ _ ?_))
                | (refine wpList_wish rfl fun K hK => wp_loadA (vs := [.int .i64 e.kind, .int .i64 e.rel, .int .i64 e.col, .int .i64 e.const.kind, .int .i64 e.const.int, .float .f64 e.const.flt, .string e.const.text, .slice A' e.kids.length cap']) agg_ex (.tmp 33) rfl rfl HAT.out (hK _ _ ?_))
                | (go_at_call 40; refine hcall.out.mono ?_; rintro ev w2 ⟨rfl, hb⟩))
              refine ⟨⟨i + 1, by simp, by rw [HD.out], by omega, HB.out.ext hb, hE.trans hb⟩, by simp [intOf] <;> omega⟩
            · have hlt' : ¬ ((i : Int) < (l.length : Int)) := by omega
              obtain rfl : i = l.length := by omega
              rw [List.take_length]
              go_wp2_with fail
              go_ret
              exact ⟨rfl, hE⟩
        · have h3 : ¬ 0 ≤ r := h2
          clear hin ih hkr hk hr hc hv hh
          go_enter Try.func40, Try.ntmps40
          go_wp2_with fail
          go_loopw [3, 4] (fun x y wr => ∃ i : Nat, y = .int .i64 (i : Int) ∧ x = .int .u32 ((hd ||| Exs.rels (l.take i) : Nat) : Int) ∧ i ≤ l.length ∧ BoxAt wr w.heap.size ([.int .i64 1, .int .i64 r, .int .i64 c, .int .i64 v.kind, .int .i64 v.int, .float .f64 v.flt, .string v.text, .slice A l.length cap]) ∧ Ext w wr) (fun _ y _ => l.length - (intOf y).toNat)
          case atStart =>
            exact ⟨0, rfl, by simp only [List.take_zero, Exs.rels, Nat.or_zero]; rw [HX.out]; rfl, by omega, h0.out, (Ext.refl w).alloc _⟩
          case round =>
            rename_i hrel
            obtain ⟨i, rfl, rfl, hi, hb, hE⟩ := hrel
            have HB := Lib.hid hb
            have b7 := hb.cells.get 7 _ rfl
            simp only [Nat.zero_add] at b7
            clear hb
            by_cases hlt : i < l.length
            · have hlt' : (i : Int) < (l.length : Int) := by omega
              have hw : wrap64 ((i : Int) + 1) = (i : Int) + 1 := by unfold wrap64; omega
              obtain ⟨g, o, s', rfl, _, hat, hin2, hg⟩ := (HIN.out.ext hE).get i hlt
              have hlta := Exs.rels_take_lt l i
              have hltb := Ex.rels_lt l[i]
              have HD : Hid (bits .or .u32 ((hd ||| Exs.rels (l.take i) : Nat) : Int) (l[i].rels : Int) = ((hd ||| Exs.rels (l.take (i + 1)) : Nat) : Int)) := Lib.hid (by rw [bits_or_u32 _ _ (or_lt32 hlt0 hlta) hltb, Exs.rels_take hlt, Nat.or_assoc])
              obtain ⟨_, A', cap', rfl, _⟩ := (Ex.In.mk_inv hin2).2.2.2.2
              have hcall := Lib.hid (IH.out l[i] (List.getElem_mem hlt) (.slice A' l[i].kids.length cap') wr hin2)
              have HAT := Lib.hid hat
              clear hat hin2 IH hlta hltb
              unfold Ex.cells exCells at HAT hcall
              generalize (hd ||| Exs.rels (l.take i)) = x at *
              generalize l[i] = e at *
              generalize e.rels = y at *
              go_wp2_with (first
                | (refine wpList_wish rfl fun K hK => wp_idxS (i := i) Try.underlying25 size_ex (.tmp 31) _ rfl rfl rfl hlt (hK _ _ ?_))
                | (refine wpList_wish rfl fun K hK => wp_loadA (vs := [.int .i64 e.kind, .int .i64 e.rel, .int .i64 e.col, .int .i64 e.const.kind, .int .i64 e.const.int, .float .f64 e.const.flt, .string e.const.text, .slice A' e.kids.length cap']) agg_ex (.tmp 33) rfl rfl HAT.out (hK _ _ ?_))
                | (go_at_call 40; refine hcall.out.mono ?_; rintro ev w2 ⟨rfl, hb⟩))
              refine ⟨⟨i + 1, by simp, by rw [HD.out], by omega, HB.out.ext hb, hE.trans hb⟩, by simp [intOf] <;> omega⟩
            · have hlt' : ¬ ((i : Int) < (l.length : Int)) := by omega
              obtain rfl : i = l.length := by omega
              rw [List.take_length]
              go_wp2_with fail
              go_ret
              exact ⟨rfl, hE⟩
      · have h3 : (k == 1) = false := by simpa using h1
        clear hin ih hkr hk hr hc hv hh
        go_enter Try.func40, Try.ntmps40
        go_wp2_with fail
        go_loopw [3, 4] (fun x y wr => ∃ i : Nat, y = .int .i64 (i : Int) ∧ x = .int .u32 ((hd ||| Exs.rels (l.take i) : Nat) : Int) ∧ i ≤ l.length ∧ BoxAt wr w.heap.size ([.int .i64 k, .int .i64 r, .int .i64 c, .int .i64 v.kind, .int .i64 v.int, .float .f64 v.flt, .string v.text, .slice A l.length cap]) ∧ Ext w wr) (fun _ y _ => l.length - (intOf y).toNat)
        case atStart =>
          exact ⟨0, rfl, by simp only [List.take_zero, Exs.rels, Nat.or_zero]; rw [HX.out]; rfl, by omega, h0.out, (Ext.refl w).alloc _⟩
        case round =>
          rename_i hrel
          obtain ⟨i, rfl, rfl, hi, hb, hE⟩ := hrel
          have HB := Lib.hid hb
          have b7 := hb.cells.get 7 _ rfl
          simp only [Nat.zero_add] at b7
          clear hb
          by_cases hlt : i < l.length
          · have hlt' : (i : Int) < (l.length : Int) := by omega
            have hw : wrap64 ((i : Int) + 1) = (i : Int) + 1 := by unfold wrap64; omega
            obtain ⟨g, o, s', rfl, _, hat, hin2, hg⟩ := (HIN.out.ext hE).get i hlt
            have hlta := Exs.rels_take_lt l i
            have hltb := Ex.rels_lt l[i]
            have HD : Hid (bits .or .u32 ((hd ||| Exs.rels (l.take i) : Nat) : Int) (l[i].rels : Int) = ((hd ||| Exs.rels (l.take (i + 1)) : Nat) : Int)) := Lib.hid (by rw [bits_or_u32 _ _ (or_lt32 hlt0 hlta) hltb, Exs.rels_take hlt, Nat.or_assoc])
            obtain ⟨_, A', cap', rfl, _⟩ := (Ex.In.mk_inv hin2).2.2.2.2
            have hcall := Lib.hid (IH.out l[i] (List.getElem_mem hlt) (.slice A' l[i].kids.length cap') wr hin2)
            have HAT := Lib.hid hat
            clear hat hin2 IH hlta hltb
            unfold Ex.cells exCells at HAT hcall
            generalize (hd ||| Exs.rels (l.take i)) = x at *
            generalize l[i] = e at *
            generalize e.rels = y at *
            go_wp2_with (first
              | (refine wpList_wish rfl fun K hK => wp_idxS (i := i) Try.underlying25 size_ex (.tmp 31) _ rfl rfl rfl hlt (hK _ _ ?_))
              | (refine wpList_wish rfl fun K hK => wp_loadA (vs := [.int .i64 e.kind, .int .i64 e.rel, .int .i64 e.col, .int .i64 e.const.kind, .int .i64 e.const.int, .float .f64 e.const.flt, .string e.const.text, .slice A' e.kids.length cap']) agg_ex (.tmp 33) rfl rfl HAT.out (hK _ _ ?_))
              | (go_at_call 40; refine hcall.out.mono ?_; rintro ev w2 ⟨rfl, hb⟩))
            refine ⟨⟨i + 1, by simp, by rw [HD.out], by omega, HB.out.ext hb, hE.trans hb⟩, by simp [intOf] <;> omega⟩
          · have hlt' : ¬ ((i : Int) < (l.length : Int)) := by omega
            obtain rfl : i = l.length := by omega
            rw [List.take_length]
            go_wp2_with fail
            go_ret
            exact ⟨rfl, hE⟩

/-- Whether an expression names relations of a set alone, and some. -/
def inSet (e : Ex) (m : Nat) : Bool := decide (e.rels ≠ 0) && decide (e.rels ||| m = m)
theorem or_eq_iff (a m : Nat) (ha : a < 4294967296) (hm : m < 4294967296) : ((bits .or .u32 (a : Int) (m : Int)) == (m : Int)) = decide (a ||| m = m) := by
  rw [bits_or_u32 a m ha hm]
  by_cases h : a ||| m = m
  · rw [h]; simp
  · rw [decide_eq_false h]
    simp only [beq_eq_false_iff_ne, ne_eq]
    omega
theorem andNot_eq_iff (a m : Nat) (ha : a < 4294967296) (hm : m < 4294967296) : ((bits .andNot .u32 (a : Int) (m : Int)) == (0 : Int)) = decide (a ||| m = m) := by
  have h1 : (BitVec.ofInt 32 (a : Int)).toNat = a := by
    rw [BitVec.ofInt_natCast, BitVec.toNat_ofNat]; exact Nat.mod_eq_of_lt (by omega)
  have h2 : (BitVec.ofInt 32 (m : Int)).toNat = m := by
    rw [BitVec.ofInt_natCast, BitVec.toNat_ofNat]; exact Nat.mod_eq_of_lt (by omega)
  have h3 : bits .andNot .u32 (a : Int) (m : Int) = (((BitVec.ofInt 32 (a : Int)) &&& ~~~ (BitVec.ofInt 32 (m : Int))).toNat : Int) := by
    show IntKind.u32.wrap ((BitVec.ofInt 32 (a : Int) &&& ~~~ BitVec.ofInt 32 (m : Int)).toNat : Int) = _
    rw [wrap_u32]
    have := (BitVec.ofInt 32 (a : Int) &&& ~~~ BitVec.ofInt 32 (m : Int)).isLt
    omega
  have hz : ((BitVec.ofInt 32 (a : Int)) &&& ~~~ (BitVec.ofInt 32 (m : Int)) = 0#32) ↔ (BitVec.ofInt 32 (a : Int)) ||| (BitVec.ofInt 32 (m : Int)) = BitVec.ofInt 32 (m : Int) := by
    generalize BitVec.ofInt 32 (a : Int) = x
    generalize BitVec.ofInt 32 (m : Int) = y
    constructor
    · intro h
      apply BitVec.eq_of_getElem_eq
      intro i hi
      have := congrArg (fun z : BitVec 32 => z[i]) h
      simp at this ⊢
      cases hx : x[i] <;> simp_all
    · intro h
      apply BitVec.eq_of_getElem_eq
      intro i hi
      have := congrArg (fun z : BitVec 32 => z[i]) h
      simp at this ⊢
      cases hx : x[i] <;> simp_all
  rw [h3]
  by_cases h : a ||| m = m
  · have : (BitVec.ofInt 32 (a : Int)) ||| (BitVec.ofInt 32 (m : Int)) = BitVec.ofInt 32 (m : Int) := by
      apply BitVec.eq_of_toNat_eq; rw [BitVec.toNat_or, h1, h2, h]
    rw [hz.2 this, decide_eq_true h]; rfl
  · rw [decide_eq_false h]
    simp only [beq_eq_false_iff_ne, ne_eq]
    intro h4
    apply h
    have h5 : (BitVec.ofInt 32 (a : Int)) &&& ~~~ (BitVec.ofInt 32 (m : Int)) = 0#32 := by
      apply BitVec.eq_of_toNat_eq
      have : (((BitVec.ofInt 32 (a : Int)) &&& ~~~ (BitVec.ofInt 32 (m : Int))).toNat : Int) = 0 := h4
      simpa using this
    have h6 := congrArg BitVec.toNat (hz.1 h5)
    rwa [BitVec.toNat_or, h1, h2] at h6
theorem rels_ne (a : Nat) : ((a : Int) != 0) = decide (a ≠ 0) := by
  by_cases h : a = 0
  · subst h; rfl
  · rw [decide_eq_true h]; simp; omega

set_option maxRecDepth 100000 in
set_option maxHeartbeats 2000000 in
theorem rin_of (e : Ex) (s : Value) (m : Nat) (w : World) (hin : Ex.In w e s) (hm : m < 4294967296) :
    Calls Try.prog 97 #[.agg (e.cells s).toArray, .int .u32 (m : Int)] w fun ev w' => ev = .returned (.bool (inSet e m)) ∧ Ext w w' := by
  obtain ⟨_, A', cap', rfl, _⟩ := hin.mk_inv.2.2.2.2
  have hcall := Lib.hid (fun u (hu : Ext w u) => rrels_of e (.slice A' e.kids.length cap') u (Ex.In.ext hu _ _ hin))
  have h0 := Lib.hid (BoxAt.new (w := w) rfl (vs := e.cells (.slice A' e.kids.length cap')) (t := 27) rfl)
  have hcall2 := hcall
  have HO := Lib.hid (or_eq_iff e.rels m e.rels_lt hm)
  have HN := Lib.hid (rels_ne e.rels)
  have HR := Lib.hid (e.rels_lt)
  unfold inSet
  clear hin
  unfold Ex.cells exCells at *
  generalize e.rels = a at *
  by_cases ha : a = 0
  · subst ha
    go_enter Try.func97, Try.ntmps97
    go_wp2_with (first
      | (refine wpList_wish rfl fun K hK => wp_loadA (vs := [.int .i64 e.kind, .int .i64 e.rel, .int .i64 e.col, .int .i64 e.const.kind, .int .i64 e.const.int, .float .f64 e.const.flt, .string e.const.text, .slice A' e.kids.length cap']) agg_ex (.tmp 2) rfl rfl h0.out.cells (hK _ _ ?_))
      | (go_at_call 40; refine (hcall.out _ ((Ext.refl _).alloc _)).mono ?_; rintro ev w2 ⟨rfl, hb⟩; have HE2 := Lib.hid (((Ext.refl w).alloc _).trans hb); clear hb))
    go_ret
    exact ⟨rfl, HE2.out⟩
  · have n0 : ((a : Int) != 0) = true := by simp; omega
    rw [decide_eq_true (show a ≠ 0 from ha), Bool.true_and]
    clear ha
    go_enter Try.func97, Try.ntmps97
    go_wp2_with (first
      | (refine wpList_wish rfl fun K hK => wp_loadA (vs := [.int .i64 e.kind, .int .i64 e.rel, .int .i64 e.col, .int .i64 e.const.kind, .int .i64 e.const.int, .float .f64 e.const.flt, .string e.const.text, .slice A' e.kids.length cap']) agg_ex (.tmp 2) rfl rfl h0.out.cells (hK _ _ ?_))
      | (go_at_call 40; refine (hcall.out _ ((Ext.refl _).alloc _)).mono ?_; rintro ev w2 ⟨rfl, hb⟩; have HE2 := Lib.hid (((Ext.refl w).alloc _).trans hb); have HB2 := Lib.hid (h0.out.ext hb); clear hb; clear hcall)
      | (refine wpList_wish rfl fun K hK => wp_loadA (vs := [.int .i64 e.kind, .int .i64 e.rel, .int .i64 e.col, .int .i64 e.const.kind, .int .i64 e.const.int, .float .f64 e.const.flt, .string e.const.text, .slice A' e.kids.length cap']) agg_ex (.tmp 2) rfl rfl HB2.out.cells (hK _ _ ?_))
      | (go_at_call 40; refine (hcall2.out _ HE2.out).mono ?_; rintro ev w3 ⟨rfl, hb⟩; have HE3 := Lib.hid (HE2.out.trans hb); clear hb))
    go_ret
    exact ⟨ret_bool (by first | exact HO.out | (rw [← HO.out]; rfl)), HE3.out⟩

set_option maxRecDepth 100000 in
set_option maxHeartbeats 2000000 in
theorem sin_of (e : Ex) (s : Value) (m : Nat) (w : World) (hin : Ex.In w e s) (hm : m < 4294967296) :
    Calls Try.prog 96 #[.agg (e.cells s).toArray, .int .u32 (m : Int)] w fun ev w' => ev = .returned (.bool (inSet e m)) ∧ Ext w w' := by
  obtain ⟨_, A', cap', rfl, _⟩ := hin.mk_inv.2.2.2.2
  have hcall := Lib.hid (fun u (hu : Ext w u) => rels_of e (.slice A' e.kids.length cap') u (Ex.In.ext hu _ _ hin))
  have h0 := Lib.hid (BoxAt.new (w := w) rfl (vs := e.cells (.slice A' e.kids.length cap')) (t := 27) rfl)
  have hcall2 := hcall
  have HO := Lib.hid (andNot_eq_iff e.rels m e.rels_lt hm)
  have HN := Lib.hid (rels_ne e.rels)
  have HR := Lib.hid (e.rels_lt)
  unfold inSet
  clear hin
  unfold Ex.cells exCells at *
  generalize e.rels = a at *
  by_cases ha : a = 0
  · subst ha
    go_enter Try.func96, Try.ntmps96
    go_wp2_with (first
      | (refine wpList_wish rfl fun K hK => wp_loadA (vs := [.int .i64 e.kind, .int .i64 e.rel, .int .i64 e.col, .int .i64 e.const.kind, .int .i64 e.const.int, .float .f64 e.const.flt, .string e.const.text, .slice A' e.kids.length cap']) agg_ex (.tmp 2) rfl rfl h0.out.cells (hK _ _ ?_))
      | (go_at_call 33; refine (hcall.out _ ((Ext.refl _).alloc _)).mono ?_; rintro ev w2 ⟨rfl, hb⟩; have HE2 := Lib.hid (((Ext.refl w).alloc _).trans hb); clear hb))
    go_ret
    exact ⟨rfl, HE2.out⟩
  · have n0 : ((a : Int) != 0) = true := by simp; omega
    rw [decide_eq_true (show a ≠ 0 from ha), Bool.true_and]
    clear ha
    go_enter Try.func96, Try.ntmps96
    go_wp2_with (first
      | (refine wpList_wish rfl fun K hK => wp_loadA (vs := [.int .i64 e.kind, .int .i64 e.rel, .int .i64 e.col, .int .i64 e.const.kind, .int .i64 e.const.int, .float .f64 e.const.flt, .string e.const.text, .slice A' e.kids.length cap']) agg_ex (.tmp 2) rfl rfl h0.out.cells (hK _ _ ?_))
      | (go_at_call 33; refine (hcall.out _ ((Ext.refl _).alloc _)).mono ?_; rintro ev w2 ⟨rfl, hb⟩; have HE2 := Lib.hid (((Ext.refl w).alloc _).trans hb); have HB2 := Lib.hid (h0.out.ext hb); clear hb; clear hcall))
    go_ret
    exact ⟨ret_bool (by first | exact HO.out | (rw [← HO.out]; rfl)), HE2.out⟩
end Go.Proofs.Ytlcdjaclahhdnaa
