/- The call of expr.Copy: alike, and with memory of its own. -/
import Derived.Test.YtlcdjaclahhdnaaTkA
import Derived.Test.YtlcdjaclahhdnaaBulk
import Derived.Deep.RegionLaw
import Derived.Deep.DeepCutAuto
import Derived.Deep.CutBlock
namespace Go.Proofs.Ytlcdjaclahhdnaa
open Go.RowKit
set_option linter.unusedSimpArgs false
set_option linter.unusedVariables false

def zeroE : List Value := exCells 0 0 0 Val.null (.slice none 0 0)
theorem BoxAt.putAt {w : World} {g i : Nat} {vs : List Value} (u : Value) (h : BoxAt w g vs) (hi : i < vs.length) : BoxAt (w.setCell ⟨g, i, none⟩ u) g (vs.set i u) := by
  have hc := h.cells.get i vs[i] (List.getElem?_eq_getElem hi)
  rw [Nat.zero_add] at hc
  refine ⟨At.of_get fun j v hv => ?_, fun j => by rw [World.frozen?_setCell]; exact h.free j, by simpa [World.setCell] using h.lt⟩
  rw [Nat.zero_add]
  by_cases hij : i = j
  · subst hij
    rw [List.getElem?_set_self hi] at hv
    injection hv with hv; subst hv
    exact World.cell?_setCell_same' _ _ _ (by rw [hc]; rfl)
  · rw [List.getElem?_set_ne hij] at hv
    have := h.cells.get j v hv
    rw [Nat.zero_add] at this
    rw [← this]
    apply World.cell?_setCell_other
    simp [hij]
theorem ex_one {k r c : Int} {v : Val} {A : Option Addr} {n cap : Nat} : ∀ u ∈ exCells k r c v (.slice A n cap), u.oneCell' = true := by
  intro u hu
  simp only [exCells, List.mem_cons, List.not_mem_nil, or_false] at hu
  rcases hu with rfl | rfl | rfl | rfl | rfl | rfl | rfl | rfl <;> rfl
theorem OwnX.lt' {w : World} {base : Nat} {v : Value} {l : List Ex} (h : OwnX w base v l) {g : Nat} (hg : v.ownBlock = some g) : g < w.heap.size ∧ base ≤ g := by
  obtain ⟨ss, _, h2, _⟩ := h; exact owns_lt h2 hg
theorem OwnX.form' {w : World} {base : Nat} {v : Value} {l : List Ex} (h : OwnX w base v l) : ∃ A cap, v = .slice A l.length cap := by
  obtain ⟨ss, _, h2, _⟩ := h
  rcases h2.2 with ⟨rfl, h0⟩ | ⟨g, cap, cur, rfl, _⟩
  · exact ⟨none, 0, by rw [h0]⟩
  · exact ⟨_, cap, rfl⟩
theorem OwnX.down {w : World} {base base' : Nat} {v : Value} {l : List Ex} (h : OwnX w base v l) (hb : base' ≤ base) : OwnX w base' v l := by
  obtain ⟨ss, h1, h2, h3⟩ := h
  refine ⟨ss, h1, ⟨h2.1, ?_⟩, fun i e s he hs => Ex.In.of_cells (only_cell fun k hk hp => ⟨?_, rfl⟩) e s (h3 i e s he hs)⟩
  · rcases h2.2 with h | ⟨g, cap, cur, h4, h5, h6⟩
    · exact .inl h
    · exact .inr ⟨g, cap, cur, h4, by omega, h6⟩
  · simp only [beside, Bool.and_eq_true, decide_eq_true_eq] at hp ⊢
    exact ⟨by omega, hp.2⟩
theorem OwnX.ex {w : World} {base : Nat} {k r c : Int} {v : Val} {s : Value} {l : List Ex} (h : OwnX w base s l) (hk : I64 k) (hr : I64 r) (hc : I64 c) (hv : v.Ok) : Ex.In (only w (from_ base)) (.mk k r c v l) s := by
  simp only [Ex.In]
  exact ⟨hk, hr, hc, hv, h.exsIn⟩
theorem ButS.one_ {g : Nat} {i : Nat} {u : Value} {w : World} : ButS (fun k => k = g) w (w.setCell ⟨g, i, none⟩ u) := ButS.set_ (M := fun k => k = g) (p := ⟨g, i, none⟩) (.inr rfl) _ (ButS.refl _ _)
theorem from_mono {w : World} {b b' : Nat} (hb : b' ≤ b) {e : Ex} {s : Value} (h : Ex.In (only w (from_ b)) e s) : Ex.In (only w (from_ b')) e s :=
  Ex.In.of_cells (only_cell fun k hk hp => ⟨by simp only [from_, decide_eq_true_eq] at hp ⊢; omega, rfl⟩) e s h

set_option maxRecDepth 100000 in
set_option maxHeartbeats 4000000 in
theorem copy_of : ∀ (e : Ex) (s : Value) (w : World), Ex.In w e s → e.small 500 →
    Calls Try.prog 41 #[.agg (e.cells s).toArray] w fun ev w' => ∃ s', ev = .returned (.agg (e.cells s').toArray) ∧ OwnX w' w.heap.size s' e.kids ∧ Ext w w' := by
  intro e
  induction e using Ex.ind with
  | h k r c v l ih =>
    intro s w hin hsm
    simp only [Ex.small, Exs.small_iff] at hsm
    obtain ⟨hl5, hsk⟩ := hsm
    obtain ⟨hlm, A, cap, rfl, hkr⟩ := hin.kids
    show Calls Try.prog 41 #[.agg (exCells k r c v (.slice A l.length cap)).toArray] w fun ev w' => ∃ s', ev = .returned (.agg (exCells k r c v s').toArray) ∧ OwnX w' w.heap.size s' l ∧ Ext w w'
    have HIN := Lib.hid hin.kids; have IH := Lib.hid ih; have HSK := Lib.hid hsk
    have hb3 : BoxAt ((w.alloc (.cells (exCells k r c v (.slice none 0 0)).toArray 27)).alloc (.cells zeroE.toArray 27)) w.heap.size (exCells k r c v (.slice none 0 0)) := (BoxAt.new rfl rfl).ext ((Ext.refl _).alloc _)
    have hb4 : BoxAt ((w.alloc (.cells (exCells k r c v (.slice none 0 0)).toArray 27)).alloc (.cells zeroE.toArray 27)) (w.heap.size + 1) zeroE := BoxAt.new (by simp) rfl
    have hE4 := ((Ext.refl w).alloc (.cells (exCells k r c v (.slice none 0 0)).toArray 27)).alloc (.cells zeroE.toArray 27)
    have HB3 := Lib.hid hb3; have HB4 := Lib.hid hb4; have HE4 := Lib.hid hE4
    clear hin ih hsk hkr hb3 hb4 hE4
    unfold zeroE exCells Val.null at *
    go_enter Try.func41, Try.ntmps41
    go_wp2_with fail
    go_loopw [11] (fun y wr => ∃ (i : Nat) (v5 : Value), y = .int .i64 (i : Int) ∧ i ≤ l.length ∧ OwnX wr (w.heap.size + 2) v5 (l.take i) ∧ BoxAt wr w.heap.size (exCells k r c v v5) ∧ BoxAt wr (w.heap.size + 1) zeroE ∧ Ext w wr) (fun y _ => l.length - (intOf y).toNat)
    case atStart => exact ⟨0, _, rfl, by omega, OwnX.nil _ _, HB3.out, HB4.out, HE4.out⟩
    case round =>
      rename_i hrel
      obtain ⟨i, v5, rfl, hi, hown, hg1, hg2, hE⟩ := hrel
      clear HB3 HB4 HE4
      by_cases hlt : i < l.length
      · have hlt' : (i : Int) < (l.length : Int) := by omega
        have hI : (i : Int) ≤ 1000 := by omega
        obtain ⟨g, o, s', rfl, -, hat, hin2, hg⟩ := (HIN.out.ext hE).get i hlt
        obtain ⟨q1, q2, q3, q4, -, A', cap', rfl, -⟩ := Ex.In.mk_inv hin2
        have hsz : w.heap.size + 2 ≤ wr.heap.size := hg2.lt
        have htk : l.take (i + 1) = l.take i ++ [l[i]] := List.take_succ_eq_append_getElem hlt
        have HTK := Lib.hid htk
        obtain ⟨W, hW⟩ : ∃ W, W = wr.alloc (.cells (l[i].cells (.slice A' l[i].kids.length cap')).toArray 27) := ⟨_, rfl⟩
        have hWs : W.heap.size = wr.heap.size + 1 := by rw [hW]; simp
        have hWE : Ext wr W := by rw [hW]; exact (Ext.refl _).alloc _
        have hWB : BoxAt W wr.heap.size (l[i].cells (.slice A' l[i].kids.length cap')) := by rw [hW]; exact BoxAt.new rfl rfl
        have hcall : Hid (∀ u, Ext W u → Calls Try.prog 41 #[.agg (l[i].cells (.slice A' l[i].kids.length cap')).toArray] u fun ev w' => ∃ A2 cap2, ev = .returned (.agg (l[i].cells (.slice A2 l[i].kids.length cap2)).toArray) ∧ Ex.In (only w' (from_ W.heap.size)) l[i] (.slice A2 l[i].kids.length cap2) ∧ Ext u w') := Lib.hid fun u hu =>
          (IH.out l[i] (List.getElem_mem hlt) _ u (Ex.In.ext (hWE.trans hu) _ _ hin2) (HSK.out _ (List.getElem_mem hlt))).mono (by
            rintro ev w' ⟨s2, rfl, ho, he⟩
            obtain ⟨A2, cap2, rfl⟩ := ho.form'
            refine ⟨A2, cap2, rfl, ?_, he⟩
            have h9 := (ho.down hu.size).ex q1 q2 q3 q4
            cases hli : l[i] with
            | mk a1 a2 a3 a4 a5 => rw [hli] at h9; exact h9)
        have HAT := Lib.hid hat
        have HOW := Lib.hid (hown.buts (M := fun _ => False) (ButS.of_ext hWE) (fun _ h => h.elim))
        have HVB : Hid (∀ g, v5.ownBlock = some g → g < wr.heap.size ∧ w.heap.size + 2 ≤ g) := Lib.hid (fun g hg => hown.lt' hg)
        have HG1 := Lib.hid (hg1.ext hWE); have HG2 := Lib.hid (hg2.ext hWE); have HEW := Lib.hid (hE.trans hWE); have HWB := Lib.hid hWB
        have hlen : (l.take i).length ≤ 1000000000 := by rw [List.length_take]; omega
        clear hat hin2 IH HSK hown hg1 hg2 hE hWE hWB HIN htk
        unfold Ex.cells exCells at *
        go_upto_region 6 with (first
          | (refine wpList_wish rfl fun K hK => wp_idxS (i := i) Try.underlying25 size_ex (.tmp 9) _ rfl rfl rfl hlt (hK _ _ ?_))
          | (refine wpList_wish rfl fun K hK => wp_loadA (vs := [.int .i64 l[i].kind, .int .i64 l[i].rel, .int .i64 l[i].col, .int .i64 l[i].const.kind, .int .i64 l[i].const.int, .float .f64 l[i].const.flt, .string l[i].const.text, .slice A' l[i].kids.length cap']) agg_ex (.tmp 13) rfl rfl HAT.out (hK _ _ ?_)))
        rw [← hW]
        clear hW HAT
        generalize l[i] = f at *
        generalize wr.heap.size = q at *
        clear wr
        have c7 := HG1.out.cells.get 7 _ rfl
        have f7 := HG1.out.free 7
        obtain ⟨y0, y1, y2, y3, y4, y5, y6, y7, yz⟩ := HWB.out.cells
        simp only [Nat.zero_add, Nat.reduceAdd] at c7 y0 y1 y2 y3 y4 y5 y6 y7
        clear yz
        go_region_law
          (first
            | (go_simp; go_at_call 41; (refine (hcall.out _ (by repeat (first | (with_reducible exact Ext.refl _) | (with_reducible refine Ext.set_ ?_ _ ?_; focus (first | (simp; done) | (simp; omega) | (simp at *; omega))) | (with_reducible refine Ext.alloc ?_ _) | (with_reducible refine Ext.drew ?_) | (with_reducible refine Ext.drewN ?_ _) | (with_reducible refine Ext.trans ?_ (by assumption))))).mono ?_); rintro ev w2 ⟨A2, cap2, rfl, hin2, hb2⟩; have HU2 := Lib.hid ((by repeat (first | (with_reducible exact Ext.refl _) | (with_reducible refine Ext.set_ ?_ _ ?_; focus (first | (simp; done) | (simp; omega) | (simp at *; omega))) | (with_reducible refine Ext.alloc ?_ _) | (with_reducible refine Ext.drew ?_) | (with_reducible refine Ext.drewN ?_ _) | (with_reducible refine Ext.trans ?_ (by assumption))) : Ext W _).trans hb2); have HIN2 := Lib.hid hin2; have c7a : ∀ o, (w2.alloc o).cell? ⟨w.heap.size, 7, none⟩ = some v5 := (fun o => by have h := (HG1.out.ext (HU2.out.alloc o)).cells.get 7 _ rfl; simpa using h); have c7b : w2.cell? ⟨w.heap.size, 7, none⟩ = some v5 := (by have h := (HG1.out.ext HU2.out).cells.get 7 _ rfl; simpa using h); clear hin2 hb2)
            | (refine step_addX (by rfl) (.tmp 16) (.tmp 19) (by rfl) (by rfl) (HOW.out.buts (M := fun _ => False) (ButS.of_ext (HU2.out.alloc _)) (fun _ h => h.elim)) f (.slice A2 f.kids.length cap2) (by rfl) (heap_alloc_new _ _) (b := W.heap.size) (Ex.In.from_ext HIN2.out (M := fun _ => False) (ButS.of_ext ((Ext.refl _).alloc _)) (fun _ h => h.elim)) (by omega) (fun g hg => by have := (HVB.out g hg).1; omega) hlen (Nat.le_trans (by omega : w.heap.size + 2 ≤ W.heap.size) (HU2.out.alloc _).size) ?_; intro g6 cap6 w5 ho5 hb5; have hq1 := ButS.box hb5 (fun e => by have := (HVB.out _ e).2; omega) (HG1.out.ext (HU2.out.alloc _)); have hq2 := ButS.box hb5 (fun e => by have := (HVB.out _ e).2; omega) (HG2.out.ext (HU2.out.alloc _)); have hq3 : Ext w w5 := ButS.to_ext (HEW.out.trans (HU2.out.alloc _)) hb5 (fun k hk => by have := (HVB.out _ hk).2; omega); have q7 := hq1.cells.get 7 _ rfl; have f7 := hq1.free 7; simp only [Nat.zero_add] at q7; have HQ1 := Lib.hid hq1; have HQ2 := Lib.hid hq2; have HQ3 := Lib.hid hq3; have HO5 := Lib.hid ho5; clear ho5 hb5 hq1 hq2 hq3))
        all_goals
          go_wp2_with fail
          have hlen2 : (l.take i).length = i := by rw [List.length_take]; omega
          have ho5 := HO5.out
          rw [hlen2] at ho5
          refine ⟨⟨i + 1, .slice (some ⟨g6, 0, none⟩) (i + 1) cap6, by simp, by omega, ?_, ?_, ?_, ?_⟩, by simp only [intOf]; omega⟩
          · rw [HTK.out]
            exact ho5.buts ButS.one_ (fun k hk => by subst hk; omega)
          · exact HQ1.out.putAt (i := 7) _ (by simp)
          · exact ButS.box ButS.one_ (by omega) HQ2.out
          · exact HQ3.out.set (p := ⟨w.heap.size, 7, none⟩) (Nat.le_refl _) _
      · have hlt' : ¬ ((i : Int) < (l.length : Int)) := by omega
        obtain rfl : i = l.length := by omega
        rw [List.take_length] at hown
        obtain ⟨A5, cap5, rfl⟩ := hown.form'
        have HG1 := Lib.hid hg1; have HG2 := Lib.hid hg2; have HOW := Lib.hid hown; have HE := Lib.hid hE
        clear hg1 hg2 hown hE HIN IH HSK
        unfold zeroE exCells Val.null at *
        go_wp2_with (first
          | (refine wpList_wish rfl fun K hK => wp_loadA (vs := [.int .i64 k, .int .i64 r, .int .i64 c, .int .i64 v.kind, .int .i64 v.int, .float .f64 v.flt, .string v.text, .slice A5 l.length cap5]) agg_ex (.tmp 1) rfl rfl HG1.out.cells (hK _ _ ?_))
          | (refine wpList_storeA (vs' := exCells k r c v (.slice A5 l.length cap5)) ex_one HG2.out size_ex rfl rfl (.tmp 2) _ rfl rfl rfl ?_; intro w3 hb1 hb2))
        refine back_cell rfl (exCells k r c v (.slice A5 l.length cap5)) rfl agg_ex rfl hb1.cells ⟨_, rfl, ?_, ?_⟩
        · exact (HOW.out.buts (M := fun k => k = w.heap.size + 1) (ButS.of_but hb2 rfl) (fun k hk => by subst hk; omega)).down (by omega)
        · exact But.to_ext HE.out hb2 (by omega)
end Go.Proofs.Ytlcdjaclahhdnaa
