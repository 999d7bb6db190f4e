/- The call of the law ValueTotal: true, whatever the values. -/
import Derived.Test.YtlcdjaclahhdnaaWorks4
import Derived.Test.YtlcdjaclahhdnaaLaw4
import Derived.Deep.RegionHeld3
import Derived.Deep.DeepCutAuto
import Derived.Laws.BytesArg
namespace Go.Proofs.Ytlcdjaclahhdnaa
open Go.RowKit
set_option linter.unusedSimpArgs false
set_option linter.unusedVariables false

/-- The text of bytes. -/
def bstr (l : List Nat) : ByteArray := ⟨(l.map UInt8.ofNat).toArray⟩
theorem bstr_list (l : List Nat) : (bstr l).toList = l.map UInt8.ofNat := by rw [ByteArray.toList_eq]; rfl
theorem bstr_size (l : List Nat) : (bstr l).size = l.length := by simp [bstr, ByteArray.size]
theorem bstr_inj : ∀ {l m : List Nat}, (∀ b ∈ l, b < 256) → (∀ b ∈ m, b < 256) → l.map UInt8.ofNat = m.map UInt8.ofNat → l = m
  | [], [], _, _, _ => rfl
  | [], _ :: _, _, _, h => by simp at h
  | _ :: _, [], _, _, h => by simp at h
  | a :: l, b :: m, hl, hm, h => by
    simp only [List.map_cons, List.cons.injEq] at h
    have h1 : a = b := by
      have := congrArg UInt8.toNat h.1
      rw [UInt8.toNat_ofNat', UInt8.toNat_ofNat'] at this
      have := hl a (by simp); have := hm b (by simp)
      omega
    rw [h1, bstr_inj (fun x hx => hl x (by simp [hx])) (fun x hx => hm x (by simp [hx])) h.2]
theorem bstr_beq {l m : List Nat} (hl : ∀ b ∈ l, b < 256) (hm : ∀ b ∈ m, b < 256) : ((bstr l).toList == (bstr m).toList) = decide (l = m) := by
  rw [bstr_list, bstr_list, Bool.eq_iff_iff]
  simp only [beq_iff_eq, decide_eq_true_eq]
  exact ⟨bstr_inj hl hm, fun h => by rw [h]⟩
theorem run_text {w : World} {base : Nat} {v : Value} {l : List Nat} (h : OwnB w base v l) : (convert 28 9 v).run Try.prog w = .ok (.string (bstr l)) w := by
  have e : strOfNums (l.map fun (b : Nat) => (b : Int)) = bstr l := by
    unfold strOfNums bstr
    simp [List.map_map, Function.comp_def]
  rcases h.2 with ⟨rfl, h0⟩ | ⟨g, cap, cur, rfl, _⟩
  · obtain rfl : l = [] := List.eq_nil_of_length_eq_zero h0
    exact run_convert_bytes_nil w 28 5 Try.underlying28 Try.underlying5 0 0 9 Try.underlying9
  · have hr := run_convert_bytes_arg (P := Try.prog) w 28 5 Try.underlying28 Try.underlying5 g 0 l.length cap (l.map fun (b : Nat) => (b : Int)) (by simp) (fun i hi => by
      have hc := World.ownsRow.cells h (g := g) rfl i (.int .u8 ((l.map fun (b : Nat) => (b : Int)).getD i 0)) (by simp [bv, List.getElem?_map, List.getElem?_eq_getElem hi])
      rwa [add_at] at hc) 9 Try.underlying9
    rw [e] at hr; exact hr

/-- What the law asks of how three values stand. -/
theorem total_facts (a b c : Val) : b.cmp a = - a.cmp b ∧ a.cmp a = 0 ∧ (0 < a.cmp b ∨ 0 < b.cmp c ∨ a.cmp c ≤ 0) ∧ (0 < a.cmp b ∨ 0 ≤ b.cmp c ∨ a.cmp c < 0) ∧ (0 ≤ a.cmp b ∨ 0 < b.cmp c ∨ a.cmp c < 0) := by
  have h1 := vcmp_ord.anti a.plain b.plain
  have h2 := vcmp_ord.anti b.plain c.plain
  have h3 := vcmp_ord.anti a.plain c.plain
  have h4 := vcmp_ord.refl a.plain
  have h5 := vcmp_ord.le a.plain b.plain c.plain
  have h6 := vcmp_ord.le c.plain a.plain b.plain
  have h7 := vcmp_ord.le b.plain c.plain a.plain
  simp only [cmp_vcmp]
  refine ⟨h1, h4, ?_, ?_, ?_⟩ <;> omega

theorem putV_nil (v : Val) (w : World) (hv : v.Ok) :
    Calls Try.prog 23 #[.slice none 0 0, .agg #[.int .i64 v.kind, .int .i64 v.int, .float .f64 v.flt, .string v.text]] w fun e w' => ∃ v', e = .returned v' ∧ OwnB w' w.heap.size v' (putV v) ∧ Ext w w' := by
  refine (putV_of (.slice none 0 0) [] v w.heap.size w (OwnB.nil _ _) (Nat.le_refl _) (by simp) hv).mono ?_
  rintro e w' ⟨v', rfl, ho, hw⟩
  exact ⟨v', rfl, ho, hw.to_ext (Nat.le_refl _)⟩
set_option maxRecDepth 100000 in
set_option maxHeartbeats 20000000 in
theorem total_walk (a b c : Val) (w : World) (ha : a.Ok) (hkb : b.Ok) (hkc : c.Ok) :
    Calls Try.prog 4 #[.agg #[.int .i64 a.kind, .int .i64 a.int, .float .f64 a.flt, .string a.text], .agg #[.int .i64 b.kind, .int .i64 b.int, .float .f64 b.flt, .string b.text], .agg #[.int .i64 c.kind, .int .i64 c.int, .float .f64 c.flt, .string c.text]] w
      fun e w' => e = .returned (.bool true) ∧ Ext w w' := by
  obtain ⟨t1, t2, t3, t4, t5⟩ := total_facts a b c
  have hz := Lib.hid (cmp_zero_iff ha hkb)
  obtain ⟨b1, b2⟩ := Val.cmp_bounds a b
  have hab := Lib.hid (fun w => cmp_of a b w ha.flt hkb.flt)
  have hbc := Lib.hid (fun w => cmp_of b c w hkb.flt hkc.flt)
  have hac := Lib.hid (fun w => cmp_of a c w ha.flt hkc.flt)
  have hba := fun w => cmp_of b a w hkb.flt ha.flt
  have haa := fun w => cmp_of a a w ha.flt ha.flt
  rw [t1] at hba
  rw [t2] at haa
  have HBA := Lib.hid hba; have HAA := Lib.hid haa; clear hba haa t1 t2
  generalize a.cmp b = x at *
  generalize b.cmp c = y at *
  generalize a.cmp c = z at *
  clear hkc
  go_enter Try.func4, Try.ntmps4
  go_wp2_with (go_at_call 21; refine (works4 _).mono ?_; rintro e w' ⟨rfl, hb⟩; obtain ⟨c0, f0, l0⟩ := hb.at_ w.heap.size (by first | omega | (simp; done) | (simp; omega) | (simp at *; omega)); obtain ⟨c1, f1, l1⟩ := hb.at_ (w.heap.size + 1) (by first | omega | (simp; done) | (simp; omega) | (simp at *; omega)); obtain ⟨c2, f2, l2⟩ := hb.at_ (w.heap.size + 2) (by first | omega | (simp; done) | (simp; omega) | (simp at *; omega)))
  have hE : Ext w w' := by repeat (first | (with_reducible exact Ext.refl _) | (with_reducible refine Ext.set_ ?_ _ ?_; focus (first | (simp; done) | (simp; omega) | (simp at *; omega))) | (with_reducible refine Ext.alloc ?_ _) | (with_reducible refine Ext.drew ?_) | (with_reducible refine Ext.drewN ?_ _) | (with_reducible refine Ext.trans ?_ (by assumption)))
  have A0 : At w' w.heap.size 0 a.cells := by (simp only [At, Val.cells, Val.null, Val.number, Val.truth, Val.float]; repeat (first | exact trivial | (refine ⟨?_, ?_⟩; focus go_simp)))
  have A1 : At w' (w.heap.size + 1) 0 b.cells := by (simp only [At, Val.cells, Val.null, Val.number, Val.truth, Val.float]; repeat (first | exact trivial | (refine ⟨?_, ?_⟩; focus go_simp)))
  have A2 : At w' (w.heap.size + 1 + 1) 0 c.cells := by (simp only [At, Val.cells, Val.null, Val.number, Val.truth, Val.float]; repeat (first | exact trivial | (refine ⟨?_, ?_⟩; focus go_simp)))
  clear c0 c1 c2 f0 f1 f2
  simp only [At, Val.cells] at A0 A1 A2
  obtain ⟨a0, a1, a2, a3, _⟩ := A0
  obtain ⟨a4, a5, a6, a7, _⟩ := A1
  obtain ⟨a8, a9, a10, a11, _⟩ := A2
  simp only [Nat.zero_add, Nat.reduceAdd] at a0 a1 a2 a3 a4 a5 a6 a7 a8 a9 a10 a11
  go_region_held3 (fun w' => w'.cell? ⟨w.heap.size, 0, none⟩ = some (.int .i64 a.kind) ∧ w'.cell? ⟨w.heap.size, 1, none⟩ = some (.int .i64 a.int) ∧ w'.cell? ⟨w.heap.size, 2, none⟩ = some (.float .f64 a.flt) ∧ w'.cell? ⟨w.heap.size, 3, none⟩ = some (.string a.text) ∧ w'.cell? ⟨w.heap.size + 1, 0, none⟩ = some (.int .i64 b.kind) ∧ w'.cell? ⟨w.heap.size + 1, 1, none⟩ = some (.int .i64 b.int) ∧ w'.cell? ⟨w.heap.size + 1, 2, none⟩ = some (.float .f64 b.flt) ∧ w'.cell? ⟨w.heap.size + 1, 3, none⟩ = some (.string b.text) ∧ w'.cell? ⟨w.heap.size + 1 + 1, 0, none⟩ = some (.int .i64 c.kind) ∧ w'.cell? ⟨w.heap.size + 1 + 1, 1, none⟩ = some (.int .i64 c.int) ∧ w'.cell? ⟨w.heap.size + 1 + 1, 2, none⟩ = some (.float .f64 c.flt) ∧ w'.cell? ⟨w.heap.size + 1 + 1, 3, none⟩ = some (.string c.text)) (go_keep)
    (first | (go_at_call 22; (first | (with_reducible refine (hab.out _).mono ?_) | (with_reducible refine (hbc.out _).mono ?_) | (with_reducible refine (hac.out _).mono ?_)); rintro e w' ⟨rfl, hb⟩; obtain ⟨c0, f0, l0⟩ := hb.at_ w.heap.size (by first | omega | (simp; done) | (simp; omega) | (simp at *; omega)); obtain ⟨c1, f1, l1⟩ := hb.at_ (w.heap.size + 1) (by first | omega | (simp; done) | (simp; omega) | (simp at *; omega)); obtain ⟨c2, f2, l2⟩ := hb.at_ (w.heap.size + 2) (by first | omega | (simp; done) | (simp; omega) | (simp at *; omega))))
  go_upto_region 6 with (go_at_call 22; (first | (with_reducible refine (HBA.out _).mono ?_) | (with_reducible refine (HAA.out _).mono ?_)); rintro e w' ⟨rfl, hb⟩; obtain ⟨c0, f0, l0⟩ := hb.at_ w.heap.size (by first | omega | (simp; done) | (simp; omega) | (simp at *; omega)); obtain ⟨c1, f1, l1⟩ := hb.at_ (w.heap.size + 1) (by first | omega | (simp; done) | (simp; omega) | (simp at *; omega)); obtain ⟨c2, f2, l2⟩ := hb.at_ (w.heap.size + 2) (by first | omega | (simp; done) | (simp; omega) | (simp at *; omega)))
  go_cut [74] (fun s74 wx => s74 = .bool false ∧ wx = w')
  case first =>
    go_wp2_with fail
    all_goals (go_meet; exact ⟨congrArg Value.bool (by first | rfl | (rw [Bool.eq_iff_iff]; simp; omega) | (simp; omega)), rfl⟩)
  case rest =>
    obtain ⟨rfl, rfl⟩ := hcut
    have hE2 : Ext w wc := by repeat (first | (with_reducible exact Ext.refl _) | (with_reducible refine Ext.set_ ?_ _ ?_; focus (first | (simp; done) | (simp; omega) | (simp at *; omega))) | (with_reducible refine Ext.alloc ?_ _) | (with_reducible refine Ext.drew ?_) | (with_reducible refine Ext.drewN ?_ _) | (with_reducible refine Ext.trans ?_ (by assumption)))
    have A0 : At wc w.heap.size 0 a.cells := by (simp only [At, Val.cells, Val.null, Val.number, Val.truth, Val.float]; repeat (first | exact trivial | (refine ⟨?_, ?_⟩; focus go_simp)))
    have A1 : At wc (w.heap.size + 1) 0 b.cells := by (simp only [At, Val.cells, Val.null, Val.number, Val.truth, Val.float]; repeat (first | exact trivial | (refine ⟨?_, ?_⟩; focus go_simp)))
    have hsame : ∀ w, Calls Try.prog 24 #[.agg #[.int .i64 a.plain.kind, .int .i64 a.plain.int, .float .f64 a.plain.flt, .string a.plain.text], .agg #[.int .i64 a.kind, .int .i64 a.int, .float .f64 a.flt, .string a.text]] w fun e w' => e = .returned (.bool true) ∧ Ext w w' := by
      have := fun w => same_of a.plain a w (Val.plain_flt ha.flt) ha.flt
      rw [same_plain ha] at this; exact this
    have HS := Lib.hid hsame; clear hsame
    have hq : ((bstr (putV a)).toList == (bstr (putV b)).toList) = (x == 0) := by
      rw [bstr_beq (putV_byte ha) (putV_byte hkb), Bool.eq_iff_iff]
      simp only [decide_eq_true_eq, beq_iff_eq]; exact hz.out.symm
    clear c0 c1 c2 f0 f1 f2
    simp only [At, Val.cells] at A0 A1
    obtain ⟨d0, d1, d2, d3, _⟩ := A0
    obtain ⟨d4, d5, d6, d7, _⟩ := A1
    simp only [Nat.zero_add, Nat.reduceAdd] at d0 d1 d2 d3 d4 d5 d6 d7
    go_wp2_with fail
    go_region_with (first | (go_at_call 23; (with_reducible refine (putV_nil a _ ha).mono ?_); rintro e w' ⟨v1, rfl, ho1, hb⟩; have hcv1 := run_text ho1; obtain ⟨c0, f0, l0⟩ := hb.at_ w.heap.size (by first | omega | (simp; done) | (simp; omega) | (simp at *; omega)); obtain ⟨c1, f1, l1⟩ := hb.at_ (w.heap.size + 1) (by first | omega | (simp; done) | (simp; omega) | (simp at *; omega))) | (go_at_call 23; (with_reducible refine (putV_nil b _ hkb).mono ?_); rintro e w' ⟨v2, rfl, ho2, hb⟩; have hcv2 := run_text ho2; have hcv3 := run_text (ho1.ext hb); obtain ⟨c0, f0, l0⟩ := hb.at_ w.heap.size (by first | omega | (simp; done) | (simp; omega) | (simp at *; omega)); obtain ⟨c1, f1, l1⟩ := hb.at_ (w.heap.size + 1) (by first | omega | (simp; done) | (simp; omega) | (simp at *; omega))) | (go_at_call 25; refine (plain_of a _ ha.flt).mono ?_; rintro e w' ⟨rfl, hb⟩; obtain ⟨c0, f0, l0⟩ := hb.at_ w.heap.size (by first | omega | (simp; done) | (simp; omega) | (simp at *; omega)); obtain ⟨c1, f1, l1⟩ := hb.at_ (w.heap.size + 1) (by first | omega | (simp; done) | (simp; omega) | (simp at *; omega))) | (go_at_call 24; refine (HS.out _).mono ?_; rintro e w' ⟨rfl, hb⟩; obtain ⟨c0, f0, l0⟩ := hb.at_ w.heap.size (by first | omega | (simp; done) | (simp; omega) | (simp at *; omega)); obtain ⟨c1, f1, l1⟩ := hb.at_ (w.heap.size + 1) (by first | omega | (simp; done) | (simp; omega) | (simp at *; omega))))
    all_goals
      go_wp2
      go_ret
      refine ⟨rfl, ?_⟩
      repeat (first | (with_reducible exact Ext.refl _) | (with_reducible refine Ext.set_ ?_ _ ?_; focus (first | (simp; done) | (simp; omega) | (simp at *; omega))) | (with_reducible refine Ext.alloc ?_ _) | (with_reducible refine Ext.drew ?_) | (with_reducible refine Ext.drewN ?_ _) | (with_reducible refine Ext.trans ?_ (by assumption)))
end Go.Proofs.Ytlcdjaclahhdnaa
