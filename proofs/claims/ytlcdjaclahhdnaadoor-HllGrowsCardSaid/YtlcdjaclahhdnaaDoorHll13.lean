/- The calls of hll.Put and hll.Take. -/
import Derived.Test.YtlcdjaclahhdnaaDoorHll12
import Derived.Test.YtlcdjaclahhdnaaDoorRead2
namespace Go.Proofs.YtlcdjaclahhdnaaDoor
open Go.RowKit
set_option linter.unusedSimpArgs false
set_option linter.unusedVariables false

set_option maxRecDepth 100000 in
set_option maxHeartbeats 1000000 in
theorem put17_of (l : List Nat) (w : World) (hl : l.length = 64) :
    Calls Tryd.prog 13 #[.slice none 0 0, .agg (bv l).toArray] w fun e w' => ∃ v, e = .returned v ∧ OwnB w' w.heap.size v l ∧ Ext w w' := by
  have h0 := Lib.hid (RowB.new (w := w) rfl 32 _ rfl hl)
  go_enter Tryd.func13, Tryd.ntmps13
  go_wp2_with (first
    | (at_builtin; refine wpList_add rfl (.tmp 5) (.tmp 7) 43 rfl Tryd.underlying43 info_u8 rfl (by omega) rfl (OwnB.nil _ w.heap.size) w.heap.size 0 64 64 (bv l) rfl (by rw [bv_length, hl]) h0.out.at_ (bv_one _) (by decide) (by decide) ?_ ?_; (focus (simp; done)); intro v1 w1 ho1 hw1))
  go_ret
  refine ⟨_, rfl, ?_, ?_⟩
  · unfold OwnB; rw [hl]; simp only [List.length_nil, Nat.zero_add] at ho1; exact ho1
  · exact (Wr.trans (Wr.of_ext ((Ext.refl w).alloc _)) hw1).to_ext (Nat.le_refl _)

theorem But.over {r g : Nat} {w w' w'' : World} (h : But r w w') (k : But g w' w'') (hg : w.heap.size ≤ g) : But r w w'' :=
  ⟨k.os.trans h.os, k.tape.trans h.tape, k.output.trans h.output, Nat.le_trans h.size k.size, fun i hi hn => (k.block i (Nat.lt_of_lt_of_le hi h.size) (by omega)).trans (h.block i hi hn)⟩
def tookL (l : List Nat) : List Nat := if rightR l = true then l else zeros64
def tookE (l : List Nat) : Int := if rightR l = true then 0 else 22
theorem take_set (l z : List Nat) (i : Nat) (hl : l.length = 64) (hz : z.length = 64) (hi : i < 64) : (l.take i ++ z.drop i).set i (l[i]'(by omega)) = l.take (i + 1) ++ z.drop (i + 1) := by
  have h1 : (l.take i).length = i := by rw [List.length_take]; omega
  rw [List.set_append_right _ _ (by omega), h1, Nat.sub_self]
  have h2 : z.drop i = z[i]'(by omega) :: z.drop (i + 1) := by rw [List.drop_eq_getElem_cons]
  rw [h2, List.set_cons_zero, List.take_succ_eq_append_getElem (by omega), List.append_assoc]; rfl

set_option maxRecDepth 100000 in
set_option maxHeartbeats 2000000 in
theorem take17_of (r B : Nat) (l : List Nat) (w : World) (h : Rd w r B l) (hl : l.length = 64) (hb : ∀ x ∈ l, x < 256) :
    Calls Tryd.prog 11 #[.pointer (some ⟨r, 0, none⟩)] w fun e w' => e = .returned (.tuple #[.agg (bv (tookL l)).toArray, .int .i64 (tookE l)]) ∧ But r w w' := by
  have hlr := h.lt.1
  have hlB := h.lt.2.1
  have HR := Lib.hid h; clear h
  have hrt := Lib.hid (fun w => hright_of l w hl hb)
  go_enter Tryd.func11, Tryd.ntmps11
  go_wp2_with fail
  go_loopw [7] (fun x wr => ∃ i : Nat, x = .int .i64 (i : Int) ∧ i ≤ 64 ∧ RowB wr (w.heap.size + 1) (l.take i ++ zeros64.drop i) ∧ (∃ z, RowB wr w.heap.size z) ∧ Rd wr r B (l.drop i) ∧ But r w wr) (fun x _ => 64 - (intOf x).toNat)
  case atStart =>
    refine ⟨0, rfl, by omega, ?_, ⟨List.replicate 64 0, RowB.alloc _ (RowB.new rfl _ _ rfl (by decide))⟩, ?_, ?_⟩
    · rw [List.take_zero, List.nil_append, List.drop_zero, ← zeros64_eq]
      exact RowB.new (by simp) _ _ rfl (by decide)
    · rw [List.drop_zero]; exact Rd.ext (by repeat (first | (with_reducible exact Ext.refl _) | (with_reducible refine Ext.set_ ?_ _ ?_; focus (first | (simp; done) | (simp; omega) | (simp at *; omega))) | (with_reducible refine Ext.alloc ?_ _) | (with_reducible refine Ext.drew ?_) | (with_reducible refine Ext.drewN ?_ _) | (with_reducible refine Ext.trans ?_ (by assumption)))) HR.out
    · exact But.of_ext (by repeat (first | (with_reducible exact Ext.refl _) | (with_reducible refine Ext.set_ ?_ _ ?_; focus (first | (simp; done) | (simp; omega) | (simp at *; omega))) | (with_reducible refine Ext.alloc ?_ _) | (with_reducible refine Ext.drew ?_) | (with_reducible refine Ext.drewN ?_ _) | (with_reducible refine Ext.trans ?_ (by assumption))))
  case round =>
    rename_i hrel
    obtain ⟨i, rfl, hi, hrow, ⟨z, hz⟩, hrd, hbut⟩ := hrel
    have hsz := hbut.size
    by_cases hlt : i < 64
    · have hlt' : (i : Int) < 64 := by omega
      have hix : i < l.length := by omega
      have hw : wrap64 ((i : Int) + 1) = (i : Int) + 1 := by unfold wrap64; omega
      have hdr : l.drop i = l[i] :: l.drop (i + 1) := List.drop_eq_getElem_cons hix
      rw [hdr] at hrd
      have hset := Lib.hid (take_set l zeros64 i hl zeros64_len hlt)
      have hby := hb l[i] (List.getElem_mem hix)
      have HROW := Lib.hid hrow; have HZ := Lib.hid hz; have HRD := Lib.hid hrd; have HBUT := Lib.hid hbut
      clear hdr hrow hz hrd hbut
      generalize l[i] = b at *
      go_wp2_with (first
        | (go_at_call 21; refine (byte_rd r B b _ _ HRD.out hby).mono ?_; rintro e w2 ⟨rfl, hr2, hb2⟩; have hrow2 := RowB.but hb2 (by omega) HROW.out; have hz2 := Lib.hid (RowB.but hb2 (by omega) HZ.out); obtain ⟨p, hp⟩ : ∃ p, w2.cell? ⟨w.heap.size + 1, i, none⟩ = some p := ⟨_, hrow2.cell i hlt⟩; have hfr := hrow2.free i; have HROW2 := Lib.hid hrow2; have HR2 := Lib.hid hr2; have hs2 := hb2.size; clear hrow2 hr2)
        | (refine wpList_idx30 rfl _ _ rfl rfl rfl hlt ?_))
      refine ⟨⟨i + 1, by simp, by omega, ?_, ⟨z, hz2.out.other (by simp <;> omega)⟩, Rd.set (by simp <;> omega) (by simp <;> omega) HR2.out, But.set_ (.inl (by simp <;> omega)) _ (HBUT.out.trans hb2)⟩, by simp [intOf]; omega⟩
      rw [← hset.out]; exact HROW2.out.set i b hlt
    · have hlt' : ¬ ((i : Int) < 64) := by omega
      obtain rfl : i = 64 := by omega
      rw [List.take_of_length_le (by omega), List.drop_of_length_le (by rw [zeros64_len]; omega), List.append_nil] at hrow
      rw [List.drop_of_length_le (by omega)] at hrd
      have HROW := Lib.hid hrow; have HZ := Lib.hid hz; have HRD := Lib.hid hrd; have HBUT := Lib.hid hbut
      clear hrow hz hrd hbut
      cases hR : rightR l
      · rw [hR] at hrt
        go_wp2_with (first
          | (go_at_call 22; refine (err_of r B _ _ HRD.out).mono ?_; rintro e w2 ⟨rfl, rfl⟩)
          | (refine wpList_load32 rfl _ rfl rfl HROW.out ?_)
          | (go_at_call 9; refine (hrt.out _).mono ?_; rintro e w3 ⟨rfl, hb3⟩; have hrow3 := Lib.hid (RowB.ext hb3 HROW.out); have hz3 := Lib.hid (RowB.ext hb3 HZ.out); have hs3 := hb3.size)
          | (refine wpList_build32 rfl rfl ?_)
          | (refine wpList_store32 (l' := zeros64) rfl _ _ rfl rfl rfl zeros64_len hz3.out ?_; intro w4 hr4 hb4))
        have hr := hr4.at_
        have e1 : tookL l = zeros64 := by unfold tookL; rw [hR]; rfl
        have e2 : tookE l = 22 := by unfold tookE; rw [hR]; rfl
        rw [e1, e2]
        refine back_ct rfl (bv zeros64) _ rfl rfl (by rw [bv_length, zeros64_len]; exact agg32) rfl hr ⟨rfl, ?_⟩
        exact (HBUT.out.trans (But.of_ext hb3)).over hb4 (Nat.le_refl _)
      · rw [hR] at hrt
        go_wp2_with (first
          | (go_at_call 22; refine (err_of r B _ _ HRD.out).mono ?_; rintro e w2 ⟨rfl, rfl⟩)
          | (refine wpList_store32 (l' := l) rfl _ _ rfl rfl rfl hl hz3.out ?_; intro w4 hr4 hb4)
          | (refine wpList_load32 rfl _ rfl rfl hrow3.out ?_)
          | (refine wpList_load32 rfl _ rfl rfl HROW.out ?_)
          | (go_at_call 9; refine (hrt.out _).mono ?_; rintro e w3 ⟨rfl, hb3⟩; have hrow3 := Lib.hid (RowB.ext hb3 HROW.out); have hz3 := Lib.hid (RowB.ext hb3 HZ.out); have hs3 := hb3.size))
        have hr := hr4.at_
        have e1 : tookL l = l := by unfold tookL; rw [hR]; rfl
        have e2 : tookE l = 0 := by unfold tookE; rw [hR]; rfl
        rw [e1, e2]
        refine back_ct rfl (bv l) _ rfl rfl (by rw [bv_length, hl]; exact agg32) rfl hr ⟨rfl, ?_⟩
        exact (HBUT.out.trans (But.of_ext hb3)).over hb4 (Nat.le_refl _)
end Go.Proofs.YtlcdjaclahhdnaaDoor
