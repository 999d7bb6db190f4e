/- The call of tabularylaw26.zones, of zones alike: true. Printed by wip/tools/gen_zeq.py. The call of tabularyref26.May, but of comparisons. Printed by wip/tools/gen_mayr.py. The call of tabularyref26.May, of comparisons; whole. Printed by wip/tools/gen_mayc.py. -/
import Derived.Test.YtlcdjaclahhdnaaRefA
import Derived.Test.YtlcdjaclahhdnaaExg
import Derived.Test.YtlcdjaclahhdnaaSafeA
import Derived.Test.YtlcdjaclahhdnaaParts2
import Derived.Test.YtlcdjaclahhdnaaPassA
namespace Go.Proofs.Ytlcdjaclahhdnaa
open Go.RowKit
set_option linter.unusedSimpArgs false
set_option linter.unusedVariables false
attribute [local irreducible] wpQuiet wpList Code.wp

section
variable {P : Program} {ops : Array Oper} {Q : Exit → Act → World → Prop} {md : Region.Mode} {S : World → Prop} {i j k : Nat} {oi oj ok : Oper} {fuel : Nat} {listed : Array Bool} {a : Act} {w : World}
/-- Three may come up. -/
theorem held_three (hi : ops.toList[i]? = some oi) (hj : ops.toList[j]? = some oj) (hk : ops.toList[k]? = some ok) (hr : Region.ready md ops listed = [i, j, k]) (hwi : Region.wanted oi (yielded ops a.tmps) = true) (hwj : Region.wanted oj (yielded ops a.tmps) = true) (hwk : Region.wanted ok (yielded ops a.tmps) = true)
    (h1 : ∀ K : Act → World → Prop, (∀ a' w', S w' → wpAnyH P md ops Q S fuel (listed.setIfInBounds i true) a' w' → K a' w') → oi.wp P a w K Q)
    (h2 : ∀ K : Act → World → Prop, (∀ a' w', S w' → wpAnyH P md ops Q S fuel (listed.setIfInBounds j true) a' w' → K a' w') → oj.wp P a w K Q)
    (h3 : ∀ K : Act → World → Prop, (∀ a' w', S w' → wpAnyH P md ops Q S fuel (listed.setIfInBounds k true) a' w' → K a' w') → ok.wp P a w K Q) : wpAnyH P md ops Q S (fuel + 1) listed a w := by
  refine wpAnyH_all hr (by simp) fun m hm => ?_
  simp only [List.mem_cons, List.not_mem_nil, or_false] at hm
  rcases hm with rfl | rfl | rfl
  · unfold wpOp
    simp only [at_list hi, hwi, if_true]
    exact .inl (h1 _ fun a' w' h1 h2 => ⟨h1, h2⟩)
  · unfold wpOp
    simp only [at_list hj, hwj, if_true]
    exact .inl (h2 _ fun a' w' h1 h2 => ⟨h1, h2⟩)
  · unfold wpOp
    simp only [at_list hk, hwk, if_true]
    exact .inl (h3 _ fun a' w' h1 h2 => ⟨h1, h2⟩)
end
theorem agg_rngR9 : aggOk Try.prog 146 10 = true := by kernel_rfl
theorem wp_new88 {w : World} {o : Oper} {a : Act} {Q : Exit → Act → World → Prop} {K : Act → World → Prop} (ho : o.op = .alloc 88)
    (h : ∀ g w', BoxAt w' g [.int .i64 0, .slice none 0 0] → Ext w w' → w.heap.size ≤ g → K (a.put o.dst (.pointer (some ⟨g, 0, none⟩))) w') : o.wp Try.prog a w K Q := by
  unfold Oper.wp execOp
  simp only [ho]
  go_simp
  exact h _ _ (BoxAt.new rfl rfl) ((Ext.refl _).alloc _) (Nat.le_refl _)
theorem wp_new146 {w : World} {o : Oper} {a : Act} {Q : Exit → Act → World → Prop} {K : Act → World → Prop} (ho : o.op = .alloc 146)
    (h : ∀ g w', BoxAt w' g [.int .i64 0, .int .i64 0, .int .i64 0, .int .i64 0, .float .f64 0, .string ⟨#[]⟩, .int .i64 0, .int .i64 0, .float .f64 0, .string ⟨#[]⟩] → Ext w w' → w.heap.size ≤ g → K (a.put o.dst (.pointer (some ⟨g, 0, none⟩))) w') : o.wp Try.prog a w K Q := by
  unfold Oper.wp execOp
  simp only [ho]
  go_simp
  exact h _ _ (BoxAt.new rfl rfl) ((Ext.refl _).alloc _) (Nat.le_refl _)
/-- A slice of zones. -/
structure ZnsIn (w : World) (x : Value) (zs : List Zn) : Prop where
  val : ∃ A c, x = .slice A zs.length c ∧ (zs ≠ [] → ∃ g o, A = some ⟨g, o, none⟩ ∧ ∀ i (hi : i < zs.length), ∃ s, Go.Proofs.Ytlcdjaclahhdnaa.At w g (o + i * 2) [.int .i64 (zs[i].rows : Int), s] ∧ RngsIn w s zs[i].cols)
  len : zs.length ≤ 1000000
theorem ZnsIn.ext {w w' : World} {x : Value} {zs : List Zn} (he : Ext w w') (h : ZnsIn w x zs) : ZnsIn w' x zs := by
  obtain ⟨⟨A, c, h1, h4⟩, h5⟩ := h
  refine ⟨⟨A, c, h1, fun hn => ?_⟩, h5⟩
  obtain ⟨g, o, h6, h7⟩ := h4 hn
  refine ⟨g, o, h6, fun i hi => ?_⟩
  obtain ⟨s, h8, h9⟩ := h7 i hi
  exact ⟨s, h8.ext he (at_lt h8 (by simp)), h9.ext he⟩
theorem ZnsIn.at_ {w : World} {A : Option Addr} {n c : Nat} {zs : List Zn} (h : ZnsIn w (.slice A n c) zs) (i : Nat) (hi : i < zs.length) :
    ∃ g o B m cb, A = some ⟨g, o, none⟩ ∧ m = zs[i].cols.length ∧ (∀ u, Ext w u → Go.Proofs.Ytlcdjaclahhdnaa.At u g (o + i * 2) [.int .i64 (zs[i].rows : Int), .slice B m cb]) ∧ RngsIn w (.slice B m cb) zs[i].cols := by
  obtain ⟨⟨A', c', h1, h4⟩, h5⟩ := h
  have hn : zs ≠ [] := fun e => by subst e; simp at hi
  obtain ⟨g, o, rfl, h6⟩ := h4 hn
  simp only [Value.slice.injEq] at h1
  obtain ⟨rfl, rfl, rfl⟩ := h1
  obtain ⟨s, h7, h8⟩ := h6 i hi
  obtain ⟨B, cb, rfl, -⟩ := h8.val
  exact ⟨g, o, B, _, cb, rfl, rfl, fun u hu => h7.ext hu (at_lt h7 (by simp)), h8⟩
theorem OwnZ.ins {Ty Tr : TypeId} {w : World} {base : Nat} {v : Value} {zs : List Zn} (h : OwnZ Ty Tr w base v zs) (hl : zs.length ≤ 1000000) (ok : ∀ z ∈ zs, ∀ g ∈ z.cols, g.Ok) (hc : ∀ z ∈ zs, z.cols.length ≤ 1000000) : ZnsIn w v zs := by
  obtain ⟨ss, h1, h2, h3⟩ := h
  rcases h2.2 with ⟨h4, h0⟩ | ⟨g, c, cur, rfl, _, hh, _⟩
  · exact ⟨⟨none, 0, by rw [h4, h0], fun hn => absurd (List.eq_nil_of_length_eq_zero h0) hn⟩, hl⟩
  · refine ⟨⟨_, c, rfl, fun _ => ⟨g, 0, rfl, fun i hi => ?_⟩⟩, hl⟩
    have hz : zs[i]? = some zs[i] := List.getElem?_eq_getElem hi
    have hs : ss[i]? = some ss[i] := List.getElem?_eq_getElem (by omega)
    have hcc := owns_cells h2
    obtain ⟨k1, k2⟩ := zzip_get zs ss i _ _ hz hs
    have e1 := hcc.get _ _ k1
    have e2 := hcc.get _ _ k2
    exact ⟨ss[i], ⟨e1, by rw [show 0 + i * 2 + 1 = 0 + (i * 2 + 1) by omega]; exact e2, trivial⟩, RngsIn.of_own9 (h3 i _ _ hz hs) rfl (ok _ (List.getElem_mem hi)) (hc _ (List.getElem_mem hi))⟩
set_option maxRecDepth 100000 in
set_option maxHeartbeats 8000000 in
theorem zoneq_of (za zb : List Zn) (a b : Value) (w : World) (ha : ZnsIn w a za) (hb : ZnsIn w b zb) (hl : zb.length = za.length)
    (hlike : ∀ i (h1 : i < za.length) (h2 : i < zb.length), zb[i].rows = za[i].rows ∧ zb[i].cols.length = za[i].cols.length ∧ ∀ k (h3 : k < za[i].cols.length) (h4 : k < zb[i].cols.length), (za[i].cols[k]).Like (zb[i].cols[k])) :
    Calls Try.prog 46 #[a, b] w fun ev w' => ev = .returned (.bool true) ∧ Ext w w' := by
  obtain ⟨A, ca, rfl, -⟩ := (show ∃ A c, a = Value.slice A za.length c ∧ True from by obtain ⟨A, c, h, _⟩ := ha.val; exact ⟨A, c, h, trivial⟩)
  obtain ⟨B, cb, rfl, -⟩ := (show ∃ A c, b = Value.slice A za.length c ∧ True from by obtain ⟨A, c, h, _⟩ := hb.val; exact ⟨A, c, by rw [← hl]; exact h, trivial⟩)
  have hlen := ha.len
  have HA := Lib.hid ha; have HB := Lib.hid hb; have HK := Lib.hid hlike; have HL := Lib.hid hl
  clear ha hb hlike hl
  go_enter Try.func46, Try.ntmps46
  go_wp2_with fail
  go_loopw [18] (fun y wr => ∃ i : Nat, y = .int .i64 (i : Int) ∧ i ≤ za.length ∧ Ext w wr) (fun y _ => za.length - (intOf y).toNat)
  case atStart => exact ⟨0, rfl, Nat.zero_le _, Ext.refl _⟩
  case round =>
    rename_i hrel
    obtain ⟨i, rfl, hi, hE⟩ := hrel
    have HER := Lib.hid hE
    clear hE
    by_cases hlt : i < za.length
    · have hlt' : (i : Int) < (za.length : Int) := by omega
      have hw : wrap64 ((i : Int) + 1) = (i : Int) + 1 := by unfold wrap64; omega
      obtain ⟨hk1, hk2, hk3⟩ := HK.out i hlt (by have := HL.out; omega)
      have hltb : i < zb.length := by have := HL.out; omega
      obtain ⟨g, o, SA, n, sca, rfl, hn1, hta, hra⟩ := (HA.out.ext HER.out).at_ i hlt
      obtain ⟨g2, o2, SB, n2, sc, rfl, hn2, htb, hrb⟩ := (HB.out.ext HER.out).at_ i hltb
      obtain rfl : n2 = n := by rw [hn2, hn1, hk2]
      have HTA := Lib.hid hta; have HTB := Lib.hid htb; have HRA := Lib.hid hra; have HRB := Lib.hid hrb
      have HNL := Lib.hid hn1; have HNB := Lib.hid hn2; have HK3 := Lib.hid hk3
      have HOK := Lib.hid hra.ok; have HLN := Lib.hid hra.len
      have HTO : Hid (∀ u, Ext wr u → Calls Try.prog 103 #[.agg #[.int .i64 (za[i].rows : Int), .slice SA n2 sca]] u fun ev w' => ∃ A c, ev = .returned (.agg #[.int .i64 (za[i].rows : Int), .slice A n2 c]) ∧ w'.ownsRow u.heap.size 146 10 (.slice A n2 c) n2 (rgc za[i].cols) ∧ Ext u w') := Lib.hid fun u h => by have h9 := told_of (za[i].rows : Int) za[i].cols _ u (hra.ext h); rw [← hn1] at h9; exact h9
      rw [hk1] at HTB
      clear hta htb hra hrb hk1 hk2 hk3 hn1 hn2
      generalize za[i].rows = rowsA at *
      generalize za[i].cols = colsA at *
      generalize zb[i].cols = colsB at *
      obtain ⟨rowsB, hrowsB⟩ : ∃ r, r = rowsA := ⟨_, rfl⟩
      rw [← hrowsB] at HTB
      have HRB9 := Lib.hid hrowsB
      clear hrowsB
      generalize hnn : n2 = n at *
      clear hnn
      go_upto_region 6 with fail
      go_cut [6, 7] (fun s6 s7 wx => ∃ (ga gb : Nat) (A4 : Option Addr) (c4 : Nat), s6 = .pointer (some ⟨ga, 0, none⟩) ∧ s7 = .pointer (some ⟨gb, 0, none⟩) ∧ BoxAt wx ga [.int .i64 (rowsA : Int), .slice A4 n c4] ∧ RngsIn wx (.slice A4 n c4) colsA ∧ BoxAt wx gb [.int .i64 (rowsB : Int), .slice SB n sc] ∧ Ext wr wx)
      case first =>
        refine wp_region_held (S := Ext wr) (by kernel_rfl) ?_
        change wpAnyH _ _ _ _ _ _ _ _ wr.drew
        have HS0 : Hid (Ext wr wr.drew) := Lib.hid (Ext.refl _).drew
        refine held_run (i := 0) (.slice (some ⟨g, o, none⟩) za.length ca) rfl (by kernel_rfl) (by kernel_rfl) (by kernel_rfl) (fun _ _ _ h => h) rfl (fun u _ => by go_simp) HS0.out ?_
        simp only [Act.put, List.setIfInBounds_toArray, List.set_cons_zero, List.set_cons_succ]
        refine held_run (i := 1) (.int .i64 (i : Int)) rfl (by kernel_rfl) (by kernel_rfl) (by kernel_rfl) (fun _ _ _ h => h) rfl (fun u _ => by go_simp) HS0.out ?_
        simp only [Act.put, List.setIfInBounds_toArray, List.set_cons_zero, List.set_cons_succ]
        refine held_idxS (i := 2) i (.tmp 21) (.tmp 22) rfl rfl (by kernel_rfl) (by kernel_rfl) (by kernel_rfl) (fun _ _ _ h => h) rfl Try.underlying76 size_zone rfl rfl hlt HS0.out ?_
        simp only [Act.put, List.setIfInBounds_toArray, List.set_cons_zero, List.set_cons_succ]
        refine held_loadA (i := 3) (vs := [.int .i64 (rowsA : Int), .slice SA n sca]) (.tmp 23) rfl rfl (by kernel_rfl) (by kernel_rfl) (by kernel_rfl) (fun _ _ _ h => h) rfl agg_zone rfl (fun u h => HTA.out u h) HS0.out ?_
        simp only [Act.put, List.setIfInBounds_toArray, List.set_cons_zero, List.set_cons_succ]
        refine held_run (i := 5) (.slice (some ⟨g2, o2, none⟩) za.length cb) rfl (by kernel_rfl) (by kernel_rfl) (by kernel_rfl) (fun _ _ _ h => h) rfl (fun u _ => by go_simp) HS0.out ?_
        simp only [Act.put, List.setIfInBounds_toArray, List.set_cons_zero, List.set_cons_succ]
        refine held_run (i := 6) (.int .i64 (i : Int)) rfl (by kernel_rfl) (by kernel_rfl) (by kernel_rfl) (fun _ _ _ h => h) rfl (fun u _ => by go_simp) HS0.out ?_
        simp only [Act.put, List.setIfInBounds_toArray, List.set_cons_zero, List.set_cons_succ]
        refine held_idxS (i := 7) i (.tmp 26) (.tmp 27) rfl rfl (by kernel_rfl) (by kernel_rfl) (by kernel_rfl) (fun _ _ _ h => h) rfl Try.underlying78 size_zoneR rfl rfl hlt HS0.out ?_
        simp only [Act.put, List.setIfInBounds_toArray, List.set_cons_zero, List.set_cons_succ]
        refine held_loadA (i := 8) (vs := [.int .i64 (rowsB : Int), .slice SB n sc]) (.tmp 28) rfl rfl (by kernel_rfl) (by kernel_rfl) (by kernel_rfl) (fun _ _ _ h => h) rfl agg_zoneR rfl (fun u h => HTB.out u h) HS0.out ?_
        simp only [Act.put, List.setIfInBounds_toArray, List.set_cons_zero, List.set_cons_succ]
        have HE0 := Lib.hid HS0.out
        refine held_three (i := 4) (j := 9) (k := 10) rfl rfl rfl (by kernel_rfl) rfl rfl rfl (fun K hK => ?_) (fun K hK => ?_) (fun K hK => ?_)
        · refine wp_callF (fun x w' => ∃ A c, x = .agg #[.int .i64 (rowsA : Int), .slice A n c] ∧ w'.ownsRow wr.drew.heap.size 146 10 (.slice A n c) n (rgc colsA) ∧ Ext wr.drew w') (fun u => by go_simp) ((HTO.out wr.drew (HE0.out)).mono fun e w' ⟨A, c, h1, h2, h3⟩ => ⟨_, h1, A, c, rfl, h2, h3⟩) ?_
          rintro _ w1 ⟨A4, c4, rfl, ho, he⟩
          have HE1 : Hid (Ext wr w1) := Lib.hid (HE0.out.trans he)
          refine hK _ _ HE1.out ?_
          try simp only [Act.put, List.setIfInBounds_toArray, List.set_cons_zero, List.set_cons_succ]
          clear hK K
          have HO_1 := Lib.hid ho
          clear ho he
          refine held_two (i := 9) (j := 10) rfl rfl (by kernel_rfl) rfl rfl (fun K hK => ?_) (fun K hK => ?_)
          · refine wp_new88 rfl ?_
            intro g9 w2 hbx he hge
            have HE2 : Hid (Ext wr w2) := Lib.hid (HE1.out.trans he)
            refine hK _ _ HE2.out ?_
            try simp only [Act.put, List.setIfInBounds_toArray, List.set_cons_zero, List.set_cons_succ]
            clear hK K
            have HB9_2 := Lib.hid hbx
            have HG9 : Hid (wr.heap.size ≤ g9) := Lib.hid (Nat.le_trans HE1.out.size hge)
            have HO_2 := Lib.hid (owns_ext HO_1.out he)
            have HN9 : Hid (∀ g, (Value.slice A4 n c4).ownBlock = some g → g ≠ g9) := Lib.hid fun g h => by have := (owns_lt HO_1.out h).1; omega
            clear hbx he hge
            refine held_do (i := 10) rfl (by kernel_rfl) rfl fun K hK => ?_
            refine wp_new88 rfl ?_
            intro g10 w3 hbx he hge
            have HE3 : Hid (Ext wr w3) := Lib.hid (HE2.out.trans he)
            refine hK _ _ HE3.out ?_
            try simp only [Act.put, List.setIfInBounds_toArray, List.set_cons_zero, List.set_cons_succ]
            clear hK K
            have HB9_3 := Lib.hid (HB9_2.out.ext he)
            have HB10_3 := Lib.hid hbx
            have HG10 : Hid (wr.heap.size ≤ g10) := Lib.hid (Nat.le_trans HE2.out.size hge)
            have HGN : Hid (g9 ≠ g10) := Lib.hid (by have := HB9_2.out.lt; omega)
            have HO_3 := Lib.hid (owns_ext HO_2.out he)
            have HN10 : Hid (∀ g, (Value.slice A4 n c4).ownBlock = some g → g ≠ g10) := Lib.hid fun g h => by have := (owns_lt HO_2.out h).1; omega
            clear hbx he hge
            refine held_do (i := 11) rfl (by kernel_rfl) rfl fun K hK => ?_
            refine wp_storeA (vs' := [.int .i64 (rowsA : Int), .slice A4 n c4]) (Rng.one9 rfl) (HB9_3.out) size_zoneR rfl (.tmp 6) (.tmp 25) rfl rfl rfl ?_
            intro wx5 hq1 hq2
            have HF5 : Hid (Ext wr wx5) := Lib.hid (But.to_ext HE3.out hq2 HG9.out)
            refine hK _ _ HF5.out ?_
            try simp only [Act.put, List.setIfInBounds_toArray, List.set_cons_zero, List.set_cons_succ]
            clear hK K
            have HC9 := Lib.hid hq1; have HC10 := Lib.hid (But.box hq2 (fun e => HGN.out e.symm) HB10_3.out)
            have HP := Lib.hid (owns_buts HO_3.out (ButS.of_but (M := fun j => j = g9) hq2 rfl) (fun g h1 h2 => HN9.out g h1 h2))
            clear hq1 hq2
            refine held_do (i := 12) rfl (by kernel_rfl) rfl fun K hK => ?_
            refine wp_storeA (vs' := [.int .i64 (rowsB : Int), .slice SB n sc]) (Rng.one9 rfl) (HC10.out) size_zoneR rfl (.tmp 7) (.tmp 29) rfl rfl rfl ?_
            intro wx6 hq1 hq2
            have HF6 : Hid (Ext wr wx6) := Lib.hid (But.to_ext HF5.out hq2 HG10.out)
            refine hK _ _ HF6.out ?_
            try simp only [Act.put, List.setIfInBounds_toArray, List.set_cons_zero, List.set_cons_succ]
            clear hK K
            refine wpAnyH_done (by kernel_rfl) ?_ _
            go_wp2_with fail
            go_meet
            exact ⟨g9, g10, A4, c4, rfl, rfl, But.box hq2 (fun e => HGN.out e) HC9.out, RngsIn.of_own9 (owns_buts HP.out (ButS.of_but (M := fun j => j = g10) hq2 rfl) (fun g h1 h2 => HN10.out g h1 h2)) HNL.out HOK.out HLN.out, hq1, HF6.out⟩
          · refine wp_new88 rfl ?_
            intro g10 w2 hbx he hge
            have HE2 : Hid (Ext wr w2) := Lib.hid (HE1.out.trans he)
            refine hK _ _ HE2.out ?_
            try simp only [Act.put, List.setIfInBounds_toArray, List.set_cons_zero, List.set_cons_succ]
            clear hK K
            have HB10_2 := Lib.hid hbx
            have HG10 : Hid (wr.heap.size ≤ g10) := Lib.hid (Nat.le_trans HE1.out.size hge)
            have HO_2 := Lib.hid (owns_ext HO_1.out he)
            have HN10 : Hid (∀ g, (Value.slice A4 n c4).ownBlock = some g → g ≠ g10) := Lib.hid fun g h => by have := (owns_lt HO_1.out h).1; omega
            clear hbx he hge
            refine held_do (i := 9) rfl (by kernel_rfl) rfl fun K hK => ?_
            refine wp_new88 rfl ?_
            intro g9 w3 hbx he hge
            have HE3 : Hid (Ext wr w3) := Lib.hid (HE2.out.trans he)
            refine hK _ _ HE3.out ?_
            try simp only [Act.put, List.setIfInBounds_toArray, List.set_cons_zero, List.set_cons_succ]
            clear hK K
            have HB10_3 := Lib.hid (HB10_2.out.ext he)
            have HB9_3 := Lib.hid hbx
            have HG9 : Hid (wr.heap.size ≤ g9) := Lib.hid (Nat.le_trans HE2.out.size hge)
            have HGN : Hid (g9 ≠ g10) := Lib.hid (by have := HB10_2.out.lt; omega)
            have HO_3 := Lib.hid (owns_ext HO_2.out he)
            have HN9 : Hid (∀ g, (Value.slice A4 n c4).ownBlock = some g → g ≠ g9) := Lib.hid fun g h => by have := (owns_lt HO_2.out h).1; omega
            clear hbx he hge
            refine held_do (i := 11) rfl (by kernel_rfl) rfl fun K hK => ?_
            refine wp_storeA (vs' := [.int .i64 (rowsA : Int), .slice A4 n c4]) (Rng.one9 rfl) (HB9_3.out) size_zoneR rfl (.tmp 6) (.tmp 25) rfl rfl rfl ?_
            intro wx5 hq1 hq2
            have HF5 : Hid (Ext wr wx5) := Lib.hid (But.to_ext HE3.out hq2 HG9.out)
            refine hK _ _ HF5.out ?_
            try simp only [Act.put, List.setIfInBounds_toArray, List.set_cons_zero, List.set_cons_succ]
            clear hK K
            have HC9 := Lib.hid hq1; have HC10 := Lib.hid (But.box hq2 (fun e => HGN.out e.symm) HB10_3.out)
            have HP := Lib.hid (owns_buts HO_3.out (ButS.of_but (M := fun j => j = g9) hq2 rfl) (fun g h1 h2 => HN9.out g h1 h2))
            clear hq1 hq2
            refine held_do (i := 12) rfl (by kernel_rfl) rfl fun K hK => ?_
            refine wp_storeA (vs' := [.int .i64 (rowsB : Int), .slice SB n sc]) (Rng.one9 rfl) (HC10.out) size_zoneR rfl (.tmp 7) (.tmp 29) rfl rfl rfl ?_
            intro wx6 hq1 hq2
            have HF6 : Hid (Ext wr wx6) := Lib.hid (But.to_ext HF5.out hq2 HG10.out)
            refine hK _ _ HF6.out ?_
            try simp only [Act.put, List.setIfInBounds_toArray, List.set_cons_zero, List.set_cons_succ]
            clear hK K
            refine wpAnyH_done (by kernel_rfl) ?_ _
            go_wp2_with fail
            go_meet
            exact ⟨g9, g10, A4, c4, rfl, rfl, But.box hq2 (fun e => HGN.out e) HC9.out, RngsIn.of_own9 (owns_buts HP.out (ButS.of_but (M := fun j => j = g10) hq2 rfl) (fun g h1 h2 => HN10.out g h1 h2)) HNL.out HOK.out HLN.out, hq1, HF6.out⟩
        · refine wp_new88 rfl ?_
          intro g9 w1 hbx he hge
          have HE1 : Hid (Ext wr w1) := Lib.hid (HE0.out.trans he)
          refine hK _ _ HE1.out ?_
          try simp only [Act.put, List.setIfInBounds_toArray, List.set_cons_zero, List.set_cons_succ]
          clear hK K
          have HB9_1 := Lib.hid hbx
          have HG9 : Hid (wr.heap.size ≤ g9) := Lib.hid (Nat.le_trans HE0.out.size hge)
          clear hbx he hge
          refine held_two (i := 4) (j := 10) rfl rfl (by kernel_rfl) rfl rfl (fun K hK => ?_) (fun K hK => ?_)
          · refine wp_callF (fun x w' => ∃ A c, x = .agg #[.int .i64 (rowsA : Int), .slice A n c] ∧ w'.ownsRow w1.heap.size 146 10 (.slice A n c) n (rgc colsA) ∧ Ext w1 w') (fun u => by go_simp) ((HTO.out w1 (HE1.out)).mono fun e w' ⟨A, c, h1, h2, h3⟩ => ⟨_, h1, A, c, rfl, h2, h3⟩) ?_
            rintro _ w2 ⟨A4, c4, rfl, ho, he⟩
            have HE2 : Hid (Ext wr w2) := Lib.hid (HE1.out.trans he)
            refine hK _ _ HE2.out ?_
            try simp only [Act.put, List.setIfInBounds_toArray, List.set_cons_zero, List.set_cons_succ]
            clear hK K
            have HB9_2 := Lib.hid (HB9_1.out.ext he)
            have HO_2 := Lib.hid ho
            have HN9 : Hid (∀ g, (Value.slice A4 n c4).ownBlock = some g → g ≠ g9) := Lib.hid fun g h => by have := (owns_lt ho h).2; have := HB9_1.out.lt; omega
            clear ho he
            refine held_do (i := 10) rfl (by kernel_rfl) rfl fun K hK => ?_
            refine wp_new88 rfl ?_
            intro g10 w3 hbx he hge
            have HE3 : Hid (Ext wr w3) := Lib.hid (HE2.out.trans he)
            refine hK _ _ HE3.out ?_
            try simp only [Act.put, List.setIfInBounds_toArray, List.set_cons_zero, List.set_cons_succ]
            clear hK K
            have HB9_3 := Lib.hid (HB9_2.out.ext he)
            have HB10_3 := Lib.hid hbx
            have HG10 : Hid (wr.heap.size ≤ g10) := Lib.hid (Nat.le_trans HE2.out.size hge)
            have HGN : Hid (g9 ≠ g10) := Lib.hid (by have := HB9_2.out.lt; omega)
            have HO_3 := Lib.hid (owns_ext HO_2.out he)
            have HN10 : Hid (∀ g, (Value.slice A4 n c4).ownBlock = some g → g ≠ g10) := Lib.hid fun g h => by have := (owns_lt HO_2.out h).1; omega
            clear hbx he hge
            refine held_do (i := 11) rfl (by kernel_rfl) rfl fun K hK => ?_
            refine wp_storeA (vs' := [.int .i64 (rowsA : Int), .slice A4 n c4]) (Rng.one9 rfl) (HB9_3.out) size_zoneR rfl (.tmp 6) (.tmp 25) rfl rfl rfl ?_
            intro wx5 hq1 hq2
            have HF5 : Hid (Ext wr wx5) := Lib.hid (But.to_ext HE3.out hq2 HG9.out)
            refine hK _ _ HF5.out ?_
            try simp only [Act.put, List.setIfInBounds_toArray, List.set_cons_zero, List.set_cons_succ]
            clear hK K
            have HC9 := Lib.hid hq1; have HC10 := Lib.hid (But.box hq2 (fun e => HGN.out e.symm) HB10_3.out)
            have HP := Lib.hid (owns_buts HO_3.out (ButS.of_but (M := fun j => j = g9) hq2 rfl) (fun g h1 h2 => HN9.out g h1 h2))
            clear hq1 hq2
            refine held_do (i := 12) rfl (by kernel_rfl) rfl fun K hK => ?_
            refine wp_storeA (vs' := [.int .i64 (rowsB : Int), .slice SB n sc]) (Rng.one9 rfl) (HC10.out) size_zoneR rfl (.tmp 7) (.tmp 29) rfl rfl rfl ?_
            intro wx6 hq1 hq2
            have HF6 : Hid (Ext wr wx6) := Lib.hid (But.to_ext HF5.out hq2 HG10.out)
            refine hK _ _ HF6.out ?_
            try simp only [Act.put, List.setIfInBounds_toArray, List.set_cons_zero, List.set_cons_succ]
            clear hK K
            refine wpAnyH_done (by kernel_rfl) ?_ _
            go_wp2_with fail
            go_meet
            exact ⟨g9, g10, A4, c4, rfl, rfl, But.box hq2 (fun e => HGN.out e) HC9.out, RngsIn.of_own9 (owns_buts HP.out (ButS.of_but (M := fun j => j = g10) hq2 rfl) (fun g h1 h2 => HN10.out g h1 h2)) HNL.out HOK.out HLN.out, hq1, HF6.out⟩
          · refine wp_new88 rfl ?_
            intro g10 w2 hbx he hge
            have HE2 : Hid (Ext wr w2) := Lib.hid (HE1.out.trans he)
            refine hK _ _ HE2.out ?_
            try simp only [Act.put, List.setIfInBounds_toArray, List.set_cons_zero, List.set_cons_succ]
            clear hK K
            have HB9_2 := Lib.hid (HB9_1.out.ext he)
            have HB10_2 := Lib.hid hbx
            have HG10 : Hid (wr.heap.size ≤ g10) := Lib.hid (Nat.le_trans HE1.out.size hge)
            have HGN : Hid (g9 ≠ g10) := Lib.hid (by have := HB9_1.out.lt; omega)
            clear hbx he hge
            refine held_do (i := 4) rfl (by kernel_rfl) rfl fun K hK => ?_
            refine wp_callF (fun x w' => ∃ A c, x = .agg #[.int .i64 (rowsA : Int), .slice A n c] ∧ w'.ownsRow w2.heap.size 146 10 (.slice A n c) n (rgc colsA) ∧ Ext w2 w') (fun u => by go_simp) ((HTO.out w2 (HE2.out)).mono fun e w' ⟨A, c, h1, h2, h3⟩ => ⟨_, h1, A, c, rfl, h2, h3⟩) ?_
            rintro _ w3 ⟨A4, c4, rfl, ho, he⟩
            have HE3 : Hid (Ext wr w3) := Lib.hid (HE2.out.trans he)
            refine hK _ _ HE3.out ?_
            try simp only [Act.put, List.setIfInBounds_toArray, List.set_cons_zero, List.set_cons_succ]
            clear hK K
            have HB9_3 := Lib.hid (HB9_2.out.ext he)
            have HB10_3 := Lib.hid (HB10_2.out.ext he)
            have HO_3 := Lib.hid ho
            have HN9 : Hid (∀ g, (Value.slice A4 n c4).ownBlock = some g → g ≠ g9) := Lib.hid fun g h => by have := (owns_lt ho h).2; have := HB9_2.out.lt; omega
            have HN10 : Hid (∀ g, (Value.slice A4 n c4).ownBlock = some g → g ≠ g10) := Lib.hid fun g h => by have := (owns_lt ho h).2; have := HB10_2.out.lt; omega
            clear ho he
            refine held_do (i := 11) rfl (by kernel_rfl) rfl fun K hK => ?_
            refine wp_storeA (vs' := [.int .i64 (rowsA : Int), .slice A4 n c4]) (Rng.one9 rfl) (HB9_3.out) size_zoneR rfl (.tmp 6) (.tmp 25) rfl rfl rfl ?_
            intro wx5 hq1 hq2
            have HF5 : Hid (Ext wr wx5) := Lib.hid (But.to_ext HE3.out hq2 HG9.out)
            refine hK _ _ HF5.out ?_
            try simp only [Act.put, List.setIfInBounds_toArray, List.set_cons_zero, List.set_cons_succ]
            clear hK K
            have HC9 := Lib.hid hq1; have HC10 := Lib.hid (But.box hq2 (fun e => HGN.out e.symm) HB10_3.out)
            have HP := Lib.hid (owns_buts HO_3.out (ButS.of_but (M := fun j => j = g9) hq2 rfl) (fun g h1 h2 => HN9.out g h1 h2))
            clear hq1 hq2
            refine held_do (i := 12) rfl (by kernel_rfl) rfl fun K hK => ?_
            refine wp_storeA (vs' := [.int .i64 (rowsB : Int), .slice SB n sc]) (Rng.one9 rfl) (HC10.out) size_zoneR rfl (.tmp 7) (.tmp 29) rfl rfl rfl ?_
            intro wx6 hq1 hq2
            have HF6 : Hid (Ext wr wx6) := Lib.hid (But.to_ext HF5.out hq2 HG10.out)
            refine hK _ _ HF6.out ?_
            try simp only [Act.put, List.setIfInBounds_toArray, List.set_cons_zero, List.set_cons_succ]
            clear hK K
            refine wpAnyH_done (by kernel_rfl) ?_ _
            go_wp2_with fail
            go_meet
            exact ⟨g9, g10, A4, c4, rfl, rfl, But.box hq2 (fun e => HGN.out e) HC9.out, RngsIn.of_own9 (owns_buts HP.out (ButS.of_but (M := fun j => j = g10) hq2 rfl) (fun g h1 h2 => HN10.out g h1 h2)) HNL.out HOK.out HLN.out, hq1, HF6.out⟩
        · refine wp_new88 rfl ?_
          intro g10 w1 hbx he hge
          have HE1 : Hid (Ext wr w1) := Lib.hid (HE0.out.trans he)
          refine hK _ _ HE1.out ?_
          try simp only [Act.put, List.setIfInBounds_toArray, List.set_cons_zero, List.set_cons_succ]
          clear hK K
          have HB10_1 := Lib.hid hbx
          have HG10 : Hid (wr.heap.size ≤ g10) := Lib.hid (Nat.le_trans HE0.out.size hge)
          clear hbx he hge
          refine held_two (i := 4) (j := 9) rfl rfl (by kernel_rfl) rfl rfl (fun K hK => ?_) (fun K hK => ?_)
          · refine wp_callF (fun x w' => ∃ A c, x = .agg #[.int .i64 (rowsA : Int), .slice A n c] ∧ w'.ownsRow w1.heap.size 146 10 (.slice A n c) n (rgc colsA) ∧ Ext w1 w') (fun u => by go_simp) ((HTO.out w1 (HE1.out)).mono fun e w' ⟨A, c, h1, h2, h3⟩ => ⟨_, h1, A, c, rfl, h2, h3⟩) ?_
            rintro _ w2 ⟨A4, c4, rfl, ho, he⟩
            have HE2 : Hid (Ext wr w2) := Lib.hid (HE1.out.trans he)
            refine hK _ _ HE2.out ?_
            try simp only [Act.put, List.setIfInBounds_toArray, List.set_cons_zero, List.set_cons_succ]
            clear hK K
            have HB10_2 := Lib.hid (HB10_1.out.ext he)
            have HO_2 := Lib.hid ho
            have HN10 : Hid (∀ g, (Value.slice A4 n c4).ownBlock = some g → g ≠ g10) := Lib.hid fun g h => by have := (owns_lt ho h).2; have := HB10_1.out.lt; omega
            clear ho he
            refine held_do (i := 9) rfl (by kernel_rfl) rfl fun K hK => ?_
            refine wp_new88 rfl ?_
            intro g9 w3 hbx he hge
            have HE3 : Hid (Ext wr w3) := Lib.hid (HE2.out.trans he)
            refine hK _ _ HE3.out ?_
            try simp only [Act.put, List.setIfInBounds_toArray, List.set_cons_zero, List.set_cons_succ]
            clear hK K
            have HB10_3 := Lib.hid (HB10_2.out.ext he)
            have HB9_3 := Lib.hid hbx
            have HG9 : Hid (wr.heap.size ≤ g9) := Lib.hid (Nat.le_trans HE2.out.size hge)
            have HGN : Hid (g9 ≠ g10) := Lib.hid (by have := HB10_2.out.lt; omega)
            have HO_3 := Lib.hid (owns_ext HO_2.out he)
            have HN9 : Hid (∀ g, (Value.slice A4 n c4).ownBlock = some g → g ≠ g9) := Lib.hid fun g h => by have := (owns_lt HO_2.out h).1; omega
            clear hbx he hge
            refine held_do (i := 11) rfl (by kernel_rfl) rfl fun K hK => ?_
            refine wp_storeA (vs' := [.int .i64 (rowsA : Int), .slice A4 n c4]) (Rng.one9 rfl) (HB9_3.out) size_zoneR rfl (.tmp 6) (.tmp 25) rfl rfl rfl ?_
            intro wx5 hq1 hq2
            have HF5 : Hid (Ext wr wx5) := Lib.hid (But.to_ext HE3.out hq2 HG9.out)
            refine hK _ _ HF5.out ?_
            try simp only [Act.put, List.setIfInBounds_toArray, List.set_cons_zero, List.set_cons_succ]
            clear hK K
            have HC9 := Lib.hid hq1; have HC10 := Lib.hid (But.box hq2 (fun e => HGN.out e.symm) HB10_3.out)
            have HP := Lib.hid (owns_buts HO_3.out (ButS.of_but (M := fun j => j = g9) hq2 rfl) (fun g h1 h2 => HN9.out g h1 h2))
            clear hq1 hq2
            refine held_do (i := 12) rfl (by kernel_rfl) rfl fun K hK => ?_
            refine wp_storeA (vs' := [.int .i64 (rowsB : Int), .slice SB n sc]) (Rng.one9 rfl) (HC10.out) size_zoneR rfl (.tmp 7) (.tmp 29) rfl rfl rfl ?_
            intro wx6 hq1 hq2
            have HF6 : Hid (Ext wr wx6) := Lib.hid (But.to_ext HF5.out hq2 HG10.out)
            refine hK _ _ HF6.out ?_
            try simp only [Act.put, List.setIfInBounds_toArray, List.set_cons_zero, List.set_cons_succ]
            clear hK K
            refine wpAnyH_done (by kernel_rfl) ?_ _
            go_wp2_with fail
            go_meet
            exact ⟨g9, g10, A4, c4, rfl, rfl, But.box hq2 (fun e => HGN.out e) HC9.out, RngsIn.of_own9 (owns_buts HP.out (ButS.of_but (M := fun j => j = g10) hq2 rfl) (fun g h1 h2 => HN10.out g h1 h2)) HNL.out HOK.out HLN.out, hq1, HF6.out⟩
          · refine wp_new88 rfl ?_
            intro g9 w2 hbx he hge
            have HE2 : Hid (Ext wr w2) := Lib.hid (HE1.out.trans he)
            refine hK _ _ HE2.out ?_
            try simp only [Act.put, List.setIfInBounds_toArray, List.set_cons_zero, List.set_cons_succ]
            clear hK K
            have HB10_2 := Lib.hid (HB10_1.out.ext he)
            have HB9_2 := Lib.hid hbx
            have HG9 : Hid (wr.heap.size ≤ g9) := Lib.hid (Nat.le_trans HE1.out.size hge)
            have HGN : Hid (g9 ≠ g10) := Lib.hid (by have := HB10_1.out.lt; omega)
            clear hbx he hge
            refine held_do (i := 4) rfl (by kernel_rfl) rfl fun K hK => ?_
            refine wp_callF (fun x w' => ∃ A c, x = .agg #[.int .i64 (rowsA : Int), .slice A n c] ∧ w'.ownsRow w2.heap.size 146 10 (.slice A n c) n (rgc colsA) ∧ Ext w2 w') (fun u => by go_simp) ((HTO.out w2 (HE2.out)).mono fun e w' ⟨A, c, h1, h2, h3⟩ => ⟨_, h1, A, c, rfl, h2, h3⟩) ?_
            rintro _ w3 ⟨A4, c4, rfl, ho, he⟩
            have HE3 : Hid (Ext wr w3) := Lib.hid (HE2.out.trans he)
            refine hK _ _ HE3.out ?_
            try simp only [Act.put, List.setIfInBounds_toArray, List.set_cons_zero, List.set_cons_succ]
            clear hK K
            have HB9_3 := Lib.hid (HB9_2.out.ext he)
            have HB10_3 := Lib.hid (HB10_2.out.ext he)
            have HO_3 := Lib.hid ho
            have HN9 : Hid (∀ g, (Value.slice A4 n c4).ownBlock = some g → g ≠ g9) := Lib.hid fun g h => by have := (owns_lt ho h).2; have := HB9_2.out.lt; omega
            have HN10 : Hid (∀ g, (Value.slice A4 n c4).ownBlock = some g → g ≠ g10) := Lib.hid fun g h => by have := (owns_lt ho h).2; have := HB10_2.out.lt; omega
            clear ho he
            refine held_do (i := 11) rfl (by kernel_rfl) rfl fun K hK => ?_
            refine wp_storeA (vs' := [.int .i64 (rowsA : Int), .slice A4 n c4]) (Rng.one9 rfl) (HB9_3.out) size_zoneR rfl (.tmp 6) (.tmp 25) rfl rfl rfl ?_
            intro wx5 hq1 hq2
            have HF5 : Hid (Ext wr wx5) := Lib.hid (But.to_ext HE3.out hq2 HG9.out)
            refine hK _ _ HF5.out ?_
            try simp only [Act.put, List.setIfInBounds_toArray, List.set_cons_zero, List.set_cons_succ]
            clear hK K
            have HC9 := Lib.hid hq1; have HC10 := Lib.hid (But.box hq2 (fun e => HGN.out e.symm) HB10_3.out)
            have HP := Lib.hid (owns_buts HO_3.out (ButS.of_but (M := fun j => j = g9) hq2 rfl) (fun g h1 h2 => HN9.out g h1 h2))
            clear hq1 hq2
            refine held_do (i := 12) rfl (by kernel_rfl) rfl fun K hK => ?_
            refine wp_storeA (vs' := [.int .i64 (rowsB : Int), .slice SB n sc]) (Rng.one9 rfl) (HC10.out) size_zoneR rfl (.tmp 7) (.tmp 29) rfl rfl rfl ?_
            intro wx6 hq1 hq2
            have HF6 : Hid (Ext wr wx6) := Lib.hid (But.to_ext HF5.out hq2 HG10.out)
            refine hK _ _ HF6.out ?_
            try simp only [Act.put, List.setIfInBounds_toArray, List.set_cons_zero, List.set_cons_succ]
            clear hK K
            refine wpAnyH_done (by kernel_rfl) ?_ _
            go_wp2_with fail
            go_meet
            exact ⟨g9, g10, A4, c4, rfl, rfl, But.box hq2 (fun e => HGN.out e) HC9.out, RngsIn.of_own9 (owns_buts HP.out (ButS.of_but (M := fun j => j = g10) hq2 rfl) (fun g h1 h2 => HN10.out g h1 h2)) HNL.out HOK.out HLN.out, hq1, HF6.out⟩
      case rest =>
        obtain ⟨ga, gb, A4, c4, rfl, rfl, hba, hrA, hbb, hEc⟩ := hcut
        have h9 := HRB9.out
        subst h9
        have HBA := Lib.hid hba; have HBB := Lib.hid hbb; have HRA4 := Lib.hid hrA; have HRBc := Lib.hid (HRB.out.ext hEc); have HEC := Lib.hid (HER.out.trans hEc)
        have hln := HLN.out
        have hnl := HNL.out
        obtain ⟨x0, x1, -⟩ := hba.cells; obtain ⟨y0, y1, -⟩ := hbb.cells
        simp only [Nat.zero_add] at x0 x1 y0 y1
        clear hba hbb hrA hEc HRA HRB HTA HTB HTO HRB9 HLN
        go_wp2_with fail
        go_loopw [47] (fun y wq => ∃ k : Nat, y = .int .i64 (k : Int) ∧ k ≤ n ∧ Ext wc wq) (fun y _ => n - (intOf y).toNat)
        case atStart => exact ⟨0, rfl, Nat.zero_le _, Ext.refl _⟩
        case round =>
          rename_i hrel
          obtain ⟨k, rfl, hk, hEq⟩ := hrel
          have HEQ := Lib.hid hEq
          clear hEq x0 x1 y0 y1
          by_cases hkn : k < n
          · have hkn' : (k : Int) < (n : Int) := by omega
            have hwk : wrap64 ((k : Int) + 1) = (k : Int) + 1 := by unfold wrap64; omega
            have hkA : k < colsA.length := by omega
            have hkB : k < colsB.length := by have := HNB.out; omega
            have hLK := HK3.out k hkA hkB
            obtain ⟨gp9, op9, rfl, hpa, hpg⟩ := (HRA4.out.ext HEQ.out).at_ k hkA
            obtain ⟨gq9, oq9, rfl, hqa, hqg⟩ := (HRBc.out.ext HEQ.out).at_ k hkB
            have HPA : Hid (∀ u, Ext wr u → At u gp9 (op9 + k * 10) colsA[k].cells) := Lib.hid fun u h => hpa.ext h hpg
            have HQA : Hid (∀ u, Ext wr u → At u gq9 (oq9 + k * 10) colsB[k].cells) := Lib.hid fun u h => hqa.ext h hqg
            have HOP := Lib.hid (HRA4.out.ok _ (List.getElem_mem hkA)); have HOQ := Lib.hid (HRBc.out.ok _ (List.getElem_mem hkB))
            have HX1 : Hid (∀ u, Ext wr u → u.cell? ⟨ga, 1, none⟩ = some (.slice (some ⟨gp9, op9, none⟩) n c4)) := Lib.hid fun u h => by have := (HBA.out.ext (HEQ.out.trans h)).cells.get 1 _ rfl; simpa using this
            have HY1 : Hid (∀ u, Ext wr u → u.cell? ⟨gb, 1, none⟩ = some (.slice (some ⟨gq9, oq9, none⟩) n sc)) := Lib.hid fun u h => by have := (HBB.out.ext (HEQ.out.trans h)).cells.get 1 _ rfl; simpa using this
            clear hpa hqa
            generalize colsA[k] = p at *
            generalize colsB[k] = q at *
            obtain ⟨pk, pn, pl, ph⟩ := p
            obtain ⟨qk, qn, ql, qh⟩ := q
            obtain ⟨e1, e2, e3, e4⟩ := hLK
            dsimp only at e1 e2 e3 e4
            subst e1 e2
            unfold Rng.cells at HPA HQA
            have HXL : Hid (∀ u, Calls Try.prog 32 #[.agg #[.int .i64 pl.kind, .int .i64 pl.int, .float .f64 pl.flt, .string pl.text], .agg #[.int .i64 ql.kind, .int .i64 ql.int, .float .f64 ql.flt, .string ql.text]] u fun ev w' => ev = .returned (.bool true) ∧ Ext u w') := Lib.hid fun u => by have h9 := exactg_of pl ql u HOP.out.low.flt HOQ.out.low.flt; rw [exactV_like e3] at h9; exact h9
            have HXH : Hid (∀ u, Calls Try.prog 32 #[.agg #[.int .i64 ph.kind, .int .i64 ph.int, .float .f64 ph.flt, .string ph.text], .agg #[.int .i64 qh.kind, .int .i64 qh.int, .float .f64 qh.flt, .string qh.text]] u fun ev w' => ev = .returned (.bool true) ∧ Ext u w') := Lib.hid fun u => by have h9 := exactg_of ph qh u HOP.out.high.flt HOQ.out.high.flt; rw [exactV_like e4] at h9; exact h9
            clear e3 e4 HOP HOQ
            go_upto_region 12 with fail
            go_cut [9, 10] (fun s9 s10 wx => ∃ g9 g10, s9 = .pointer (some ⟨g9, 0, none⟩) ∧ s10 = .pointer (some ⟨g10, 0, none⟩) ∧ BoxAt wx g9 [.int .i64 pk, .int .i64 pn, .int .i64 pl.kind, .int .i64 pl.int, .float .f64 pl.flt, .string pl.text, .int .i64 ph.kind, .int .i64 ph.int, .float .f64 ph.flt, .string ph.text] ∧ BoxAt wx g10 [.int .i64 pk, .int .i64 pn, .int .i64 ql.kind, .int .i64 ql.int, .float .f64 ql.flt, .string ql.text, .int .i64 qh.kind, .int .i64 qh.int, .float .f64 qh.flt, .string qh.text] ∧ Ext wr wx)
            case first =>
              refine wp_region_held (S := Ext wr) (by kernel_rfl) ?_
              change wpAnyH _ _ _ _ _ _ _ _ wr.drew
              have HS0 : Hid (Ext wr wr.drew) := Lib.hid (Ext.refl _).drew
              refine held_run (i := 0) (.pointer (some ⟨ga, 1, none⟩)) rfl (by kernel_rfl) (by kernel_rfl) (by kernel_rfl) (fun _ _ _ h => h) rfl (fun u _ => by go_simp) HS0.out ?_
              simp only [Act.put, List.setIfInBounds_toArray, List.set_cons_zero, List.set_cons_succ]
              refine held_cell (i := 1) (v := (.slice (some ⟨gp9, op9, none⟩) n c4)) (.tmp 50) rfl rfl (by kernel_rfl) (by kernel_rfl) (by kernel_rfl) (fun _ _ _ h => h) rfl Try.underlying86 rfl rfl (fun u h => HX1.out u h) HS0.out ?_
              simp only [Act.put, List.setIfInBounds_toArray, List.set_cons_zero, List.set_cons_succ]
              refine held_run (i := 2) (.int .i64 (k : Int)) rfl (by kernel_rfl) (by kernel_rfl) (by kernel_rfl) (fun _ _ _ h => h) rfl (fun u _ => by go_simp) HS0.out ?_
              simp only [Act.put, List.setIfInBounds_toArray, List.set_cons_zero, List.set_cons_succ]
              refine held_idxS (i := 3) k (.tmp 51) (.tmp 52) rfl rfl (by kernel_rfl) (by kernel_rfl) (by kernel_rfl) (fun _ _ _ h => h) rfl Try.underlying86 size_rngR9 rfl rfl hkn HS0.out ?_
              simp only [Act.put, List.setIfInBounds_toArray, List.set_cons_zero, List.set_cons_succ]
              refine held_loadA (i := 4) (vs := [.int .i64 pk, .int .i64 pn, .int .i64 pl.kind, .int .i64 pl.int, .float .f64 pl.flt, .string pl.text, .int .i64 ph.kind, .int .i64 ph.int, .float .f64 ph.flt, .string ph.text]) (.tmp 53) rfl rfl (by kernel_rfl) (by kernel_rfl) (by kernel_rfl) (fun _ _ _ h => h) rfl agg_rngR9 rfl (fun u h => HPA.out u h) HS0.out ?_
              simp only [Act.put, List.setIfInBounds_toArray, List.set_cons_zero, List.set_cons_succ]
              refine held_run (i := 5) (.pointer (some ⟨gb, 1, none⟩)) rfl (by kernel_rfl) (by kernel_rfl) (by kernel_rfl) (fun _ _ _ h => h) rfl (fun u _ => by go_simp) HS0.out ?_
              simp only [Act.put, List.setIfInBounds_toArray, List.set_cons_zero, List.set_cons_succ]
              refine held_cell (i := 6) (v := (.slice (some ⟨gq9, oq9, none⟩) n sc)) (.tmp 55) rfl rfl (by kernel_rfl) (by kernel_rfl) (by kernel_rfl) (fun _ _ _ h => h) rfl Try.underlying86 rfl rfl (fun u h => HY1.out u h) HS0.out ?_
              simp only [Act.put, List.setIfInBounds_toArray, List.set_cons_zero, List.set_cons_succ]
              refine held_run (i := 7) (.int .i64 (k : Int)) rfl (by kernel_rfl) (by kernel_rfl) (by kernel_rfl) (fun _ _ _ h => h) rfl (fun u _ => by go_simp) HS0.out ?_
              simp only [Act.put, List.setIfInBounds_toArray, List.set_cons_zero, List.set_cons_succ]
              refine held_idxS (i := 8) k (.tmp 56) (.tmp 57) rfl rfl (by kernel_rfl) (by kernel_rfl) (by kernel_rfl) (fun _ _ _ h => h) rfl Try.underlying86 size_rngR9 rfl rfl hkn HS0.out ?_
              simp only [Act.put, List.setIfInBounds_toArray, List.set_cons_zero, List.set_cons_succ]
              refine held_loadA (i := 9) (vs := [.int .i64 pk, .int .i64 pn, .int .i64 ql.kind, .int .i64 ql.int, .float .f64 ql.flt, .string ql.text, .int .i64 qh.kind, .int .i64 qh.int, .float .f64 qh.flt, .string qh.text]) (.tmp 58) rfl rfl (by kernel_rfl) (by kernel_rfl) (by kernel_rfl) (fun _ _ _ h => h) rfl agg_rngR9 rfl (fun u h => HQA.out u h) HS0.out ?_
              simp only [Act.put, List.setIfInBounds_toArray, List.set_cons_zero, List.set_cons_succ]
              refine held_two (i := 10) (j := 11) rfl rfl (by kernel_rfl) rfl rfl (fun K hK => ?_) (fun K hK => ?_)
              · refine wp_new146 rfl ?_
                intro g9 v1 hbx he hge
                have HF1 : Hid (Ext wr v1) := Lib.hid (HS0.out.trans he)
                refine hK _ _ HF1.out ?_
                try simp only [Act.put, List.setIfInBounds_toArray, List.set_cons_zero, List.set_cons_succ]
                clear hK K
                have HB9_1 := Lib.hid hbx; have HG9 : Hid (wr.heap.size ≤ g9) := Lib.hid (Nat.le_trans HS0.out.size hge)
                clear hbx he hge
                refine held_do (i := 11) rfl (by kernel_rfl) rfl fun K hK => ?_
                refine wp_new146 rfl ?_
                intro g10 v2 hbx he hge
                have HF2 : Hid (Ext wr v2) := Lib.hid (HF1.out.trans he)
                refine hK _ _ HF2.out ?_
                try simp only [Act.put, List.setIfInBounds_toArray, List.set_cons_zero, List.set_cons_succ]
                clear hK K
                have HB10_2 := Lib.hid hbx; have HG10 : Hid (wr.heap.size ≤ g10) := Lib.hid (Nat.le_trans HF1.out.size hge)
                have HGN : Hid (g9 ≠ g10) := Lib.hid (by have := HB9_1.out.lt; omega)
                have HB9_2 := Lib.hid (HB9_1.out.ext he)
                clear hbx he hge
                refine held_do (i := 12) rfl (by kernel_rfl) rfl fun K hK => ?_
                refine wp_storeA (vs' := [.int .i64 pk, .int .i64 pn, .int .i64 pl.kind, .int .i64 pl.int, .float .f64 pl.flt, .string pl.text, .int .i64 ph.kind, .int .i64 ph.int, .float .f64 ph.flt, .string ph.text]) (Rng.one9 rfl) (HB9_2.out) size_rngR9 rfl (.tmp 9) (.tmp 54) rfl rfl rfl ?_
                intro v3 hq1 hq2
                have HF3 : Hid (Ext wr v3) := Lib.hid (But.to_ext HF2.out hq2 HG9.out)
                refine hK _ _ HF3.out ?_
                try simp only [Act.put, List.setIfInBounds_toArray, List.set_cons_zero, List.set_cons_succ]
                clear hK K
                have HC9 := Lib.hid hq1; have HC10 := Lib.hid (But.box hq2 (fun e => HGN.out e.symm) HB10_2.out)
                clear hq1 hq2
                refine held_do (i := 13) rfl (by kernel_rfl) rfl fun K hK => ?_
                refine wp_storeA (vs' := [.int .i64 pk, .int .i64 pn, .int .i64 ql.kind, .int .i64 ql.int, .float .f64 ql.flt, .string ql.text, .int .i64 qh.kind, .int .i64 qh.int, .float .f64 qh.flt, .string qh.text]) (Rng.one9 rfl) (HC10.out) size_rngR9 rfl (.tmp 10) (.tmp 59) rfl rfl rfl ?_
                intro v4 hq1 hq2
                have HF4 : Hid (Ext wr v4) := Lib.hid (But.to_ext HF3.out hq2 HG10.out)
                refine hK _ _ HF4.out ?_
                try simp only [Act.put, List.setIfInBounds_toArray, List.set_cons_zero, List.set_cons_succ]
                clear hK K
                refine wpAnyH_done (by kernel_rfl) ?_ _
                go_wp2_with fail
                go_meet
                exact ⟨g9, g10, rfl, rfl, But.box hq2 (fun e => HGN.out e) HC9.out, hq1, HF4.out⟩
              · refine wp_new146 rfl ?_
                intro g10 v1 hbx he hge
                have HF1 : Hid (Ext wr v1) := Lib.hid (HS0.out.trans he)
                refine hK _ _ HF1.out ?_
                try simp only [Act.put, List.setIfInBounds_toArray, List.set_cons_zero, List.set_cons_succ]
                clear hK K
                have HB10_1 := Lib.hid hbx; have HG10 : Hid (wr.heap.size ≤ g10) := Lib.hid (Nat.le_trans HS0.out.size hge)
                clear hbx he hge
                refine held_do (i := 10) rfl (by kernel_rfl) rfl fun K hK => ?_
                refine wp_new146 rfl ?_
                intro g9 v2 hbx he hge
                have HF2 : Hid (Ext wr v2) := Lib.hid (HF1.out.trans he)
                refine hK _ _ HF2.out ?_
                try simp only [Act.put, List.setIfInBounds_toArray, List.set_cons_zero, List.set_cons_succ]
                clear hK K
                have HB9_2 := Lib.hid hbx; have HG9 : Hid (wr.heap.size ≤ g9) := Lib.hid (Nat.le_trans HF1.out.size hge)
                have HGN : Hid (g9 ≠ g10) := Lib.hid (by have := HB10_1.out.lt; omega)
                have HB10_2 := Lib.hid (HB10_1.out.ext he)
                clear hbx he hge
                refine held_do (i := 12) rfl (by kernel_rfl) rfl fun K hK => ?_
                refine wp_storeA (vs' := [.int .i64 pk, .int .i64 pn, .int .i64 pl.kind, .int .i64 pl.int, .float .f64 pl.flt, .string pl.text, .int .i64 ph.kind, .int .i64 ph.int, .float .f64 ph.flt, .string ph.text]) (Rng.one9 rfl) (HB9_2.out) size_rngR9 rfl (.tmp 9) (.tmp 54) rfl rfl rfl ?_
                intro v3 hq1 hq2
                have HF3 : Hid (Ext wr v3) := Lib.hid (But.to_ext HF2.out hq2 HG9.out)
                refine hK _ _ HF3.out ?_
                try simp only [Act.put, List.setIfInBounds_toArray, List.set_cons_zero, List.set_cons_succ]
                clear hK K
                have HC9 := Lib.hid hq1; have HC10 := Lib.hid (But.box hq2 (fun e => HGN.out e.symm) HB10_2.out)
                clear hq1 hq2
                refine held_do (i := 13) rfl (by kernel_rfl) rfl fun K hK => ?_
                refine wp_storeA (vs' := [.int .i64 pk, .int .i64 pn, .int .i64 ql.kind, .int .i64 ql.int, .float .f64 ql.flt, .string ql.text, .int .i64 qh.kind, .int .i64 qh.int, .float .f64 qh.flt, .string qh.text]) (Rng.one9 rfl) (HC10.out) size_rngR9 rfl (.tmp 10) (.tmp 59) rfl rfl rfl ?_
                intro v4 hq1 hq2
                have HF4 : Hid (Ext wr v4) := Lib.hid (But.to_ext HF3.out hq2 HG10.out)
                refine hK _ _ HF4.out ?_
                try simp only [Act.put, List.setIfInBounds_toArray, List.set_cons_zero, List.set_cons_succ]
                clear hK K
                refine wpAnyH_done (by kernel_rfl) ?_ _
                go_wp2_with fail
                go_meet
                exact ⟨g9, g10, rfl, rfl, But.box hq2 (fun e => HGN.out e) HC9.out, hq1, HF4.out⟩
            case rest =>
              obtain ⟨g9, g10, rfl, rfl, hc9, hc10, hEz⟩ := hcut
              have HC9 := Lib.hid hc9; have HC10 := Lib.hid hc10; have HEZ := Lib.hid (HEQ.out.trans hEz)
              have HPL : Hid (At wc g9 2 [.int .i64 pl.kind, .int .i64 pl.int, .float .f64 pl.flt, .string pl.text]) := Lib.hid (At.mid hc9.cells 2 4); have HPH : Hid (∀ u, Ext wc u → At u g9 6 [.int .i64 ph.kind, .int .i64 ph.int, .float .f64 ph.flt, .string ph.text]) := Lib.hid fun u h => At.mid ((hc9.ext h).cells) 6 4
              have HQL : Hid (At wc g10 2 [.int .i64 ql.kind, .int .i64 ql.int, .float .f64 ql.flt, .string ql.text]) := Lib.hid (At.mid hc10.cells 2 4); have HQH : Hid (∀ u, Ext wc u → At u g10 6 [.int .i64 qh.kind, .int .i64 qh.int, .float .f64 qh.flt, .string qh.text]) := Lib.hid fun u h => At.mid ((hc10.ext h).cells) 6 4
              obtain ⟨x0, x1, -⟩ := hc9.cells; obtain ⟨y0, y1, -⟩ := hc10.cells
              simp only [Nat.zero_add] at x0 x1 y0 y1
              clear hc9 hc10 hEz HX1 HY1 HPA HQA HC9 HC10
              go_wp2_with (first
                | (refine wpList_wish rfl fun K hK => wp_loadA (vs := [.int .i64 pl.kind, .int .i64 pl.int, .float .f64 pl.flt, .string pl.text]) agg_val (.tmp 73) rfl rfl (HPL.out) (hK _ _ ?_))
                | (refine wpList_wish rfl fun K hK => wp_loadA (vs := [.int .i64 ql.kind, .int .i64 ql.int, .float .f64 ql.flt, .string ql.text]) agg_val (.tmp 75) rfl rfl (HQL.out) (hK _ _ ?_))
                | (go_at_call 32; with_reducible refine (HXL.out _).mono ?_; rintro ev w6 ⟨rfl, hb⟩; have HE6 := Lib.hid hb; clear hb x0 x1 y0 y1)
                | (refine wpList_wish rfl fun K hK => wp_loadA (vs := [.int .i64 ph.kind, .int .i64 ph.int, .float .f64 ph.flt, .string ph.text]) agg_val (.tmp 81) rfl rfl (HPH.out _ HE6.out) (hK _ _ ?_))
                | (refine wpList_wish rfl fun K hK => wp_loadA (vs := [.int .i64 qh.kind, .int .i64 qh.int, .float .f64 qh.flt, .string qh.text]) agg_val (.tmp 83) rfl rfl (HQH.out _ HE6.out) (hK _ _ ?_))
                | (go_at_call 32; with_reducible refine (HXH.out _).mono ?_; rintro ev w7 ⟨rfl, hb⟩; have HE7 := Lib.hid hb; clear hb))
              refine ⟨⟨k + 1, by simp, by omega, (HEZ.out.trans HE6.out).trans HE7.out⟩, by simp [intOf] <;> omega⟩
          · have hkn' : ¬ (k : Int) < (n : Int) := by omega
            go_wp2_with fail
            refine ⟨⟨i + 1, by simp, by omega, HEC.out.trans HEQ.out⟩, by simp [intOf] <;> omega⟩
    · have hlt' : ¬ ((i : Int) < (za.length : Int)) := by omega
      go_wp2_with fail
      go_ret
      exact ⟨rfl, HER.out⟩
end Go.Proofs.Ytlcdjaclahhdnaa
namespace Go.Proofs.Ytlcdjaclahhdnaa
open Go.RowKit
set_option linter.unusedSimpArgs false
set_option linter.unusedVariables false
attribute [local irreducible] wpQuiet wpList Code.wp

set_option maxRecDepth 100000 in
set_option maxHeartbeats 16000000 in
theorem mr_bad (zr rel : Int) (cols : List Rng) (zs : Value) (k r c : Int) (v : Val) (l : List Ex) (es : Value) (w : World) (hz : RngsIn w zs cols) (he : Ex.In w (.mk k r c v l) es) (hf : ¬ 0 ≤ (Ex.mk k r c v l).count 1 400) :
    Calls Try.prog 48 #[.agg #[.int .i64 zr, zs], .int .i64 rel, .agg (exCells k r c v es).toArray] w fun ev w' => ev = .returned (.bool (true)) ∧ Ext w w' := by
  unfold exCells
  obtain ⟨ZA, zcap, rfl, -⟩ := hz.val
  have HZ : Hid (∀ u, Ext w u → RngsIn u (.slice ZA cols.length zcap) cols) := Lib.hid fun u h => hz.ext h
  obtain ⟨hlm, EA, ecap, rfl, hkr⟩ := he.kids
  have HX : Hid (∀ u, Ext w u → Ex.In u (.mk k r c v l) (.slice EA l.length ecap)) := Lib.hid fun u h => Ex.In.ext h _ _ he
  have HKI : Hid (ExsIn w (.slice EA l.length ecap) l) := Lib.hid he.kids
  clear hz he hlm hkr
  have HB0 := Lib.hid ((BoxAt.new (w := w) (vs := [.int .i64 zr, .slice ZA cols.length zcap]) (t := 88) rfl rfl).ext ((Ext.refl (w.alloc (.cells [.int .i64 zr, .slice ZA cols.length zcap].toArray 88))).alloc (.cells [.int .i64 k, .int .i64 r, .int .i64 c, .int .i64 v.kind, .int .i64 v.int, .float .f64 v.flt, .string v.text, .slice EA l.length ecap].toArray 27)))
  have HB1 := Lib.hid (BoxAt.new (w := (w.alloc (.cells [.int .i64 zr, .slice ZA cols.length zcap].toArray 88))) (g := w.heap.size + 1) (vs := [.int .i64 k, .int .i64 r, .int .i64 c, .int .i64 v.kind, .int .i64 v.int, .float .f64 v.flt, .string v.text, .slice EA l.length ecap]) (t := 27) (by simp) rfl)
  have HE := Lib.hid (((Ext.refl w).alloc (.cells [.int .i64 zr, .slice ZA cols.length zcap].toArray 88)).alloc (.cells [.int .i64 k, .int .i64 r, .int .i64 c, .int .i64 v.kind, .int .i64 v.int, .float .f64 v.flt, .string v.text, .slice EA l.length ecap].toArray 27))
  have HF : Hid (∀ u, Ext w u → Calls Try.prog 87 #[.agg #[.int .i64 k, .int .i64 r, .int .i64 c, .int .i64 v.kind, .int .i64 v.int, .float .f64 v.flt, .string v.text, .slice EA l.length ecap]] u fun ev w' => ev = .returned (.bool (decide (0 ≤ (Ex.mk k r c v l).count 1 400))) ∧ Ext u w') := Lib.hid fun u h => rformed_of (.mk k r c v l) _ u (HX.out u h)
  rw [decide_eq_false hf] at HF
  clear hf
  go_enter Try.func48, Try.ntmps48
  go_wp2_with (first
    | (refine wpList_ldA (.tmp 15) (vs := [.int .i64 k, .int .i64 r, .int .i64 c, .int .i64 v.kind, .int .i64 v.int, .float .f64 v.flt, .string v.text, .slice EA l.length ecap]) rfl rfl agg_ex rfl (HB1.out.cells) ?_)
    | (go_at_call 87; refine (HF.out _ HE.out).mono ?_; rintro ev w2 ⟨rfl, hb2⟩; have HE2 := Lib.hid (HE.out.trans hb2); have HZ2 := Lib.hid (HB0.out.ext hb2); have HX2 := Lib.hid (HB1.out.ext hb2); clear hb2))
  go_ret
  exact ⟨rfl, HE2.out⟩
set_option maxRecDepth 100000 in
set_option maxHeartbeats 16000000 in
theorem mr_else (zr rel : Int) (cols : List Rng) (zs : Value) (k r c : Int) (v : Val) (l : List Ex) (es : Value) (w : World) (hz : RngsIn w zs cols) (he : Ex.In w (.mk k r c v l) es) (hf : 0 ≤ (Ex.mk k r c v l).count 1 400) (h7 : ¬ (k = 7 ∨ k = 8 ∨ k = 9)) (h13 : ¬ k = 13) (h12 : ¬ k = 12) :
    Calls Try.prog 48 #[.agg #[.int .i64 zr, zs], .int .i64 rel, .agg (exCells k r c v es).toArray] w fun ev w' => ev = .returned (.bool (true)) ∧ Ext w w' := by
  unfold exCells
  obtain ⟨ZA, zcap, rfl, -⟩ := hz.val
  have HZ : Hid (∀ u, Ext w u → RngsIn u (.slice ZA cols.length zcap) cols) := Lib.hid fun u h => hz.ext h
  obtain ⟨hlm, EA, ecap, rfl, hkr⟩ := he.kids
  have HX : Hid (∀ u, Ext w u → Ex.In u (.mk k r c v l) (.slice EA l.length ecap)) := Lib.hid fun u h => Ex.In.ext h _ _ he
  have HKI : Hid (ExsIn w (.slice EA l.length ecap) l) := Lib.hid he.kids
  clear hz he hlm hkr
  have HB0 := Lib.hid ((BoxAt.new (w := w) (vs := [.int .i64 zr, .slice ZA cols.length zcap]) (t := 88) rfl rfl).ext ((Ext.refl (w.alloc (.cells [.int .i64 zr, .slice ZA cols.length zcap].toArray 88))).alloc (.cells [.int .i64 k, .int .i64 r, .int .i64 c, .int .i64 v.kind, .int .i64 v.int, .float .f64 v.flt, .string v.text, .slice EA l.length ecap].toArray 27)))
  have HB1 := Lib.hid (BoxAt.new (w := (w.alloc (.cells [.int .i64 zr, .slice ZA cols.length zcap].toArray 88))) (g := w.heap.size + 1) (vs := [.int .i64 k, .int .i64 r, .int .i64 c, .int .i64 v.kind, .int .i64 v.int, .float .f64 v.flt, .string v.text, .slice EA l.length ecap]) (t := 27) (by simp) rfl)
  have HE := Lib.hid (((Ext.refl w).alloc (.cells [.int .i64 zr, .slice ZA cols.length zcap].toArray 88)).alloc (.cells [.int .i64 k, .int .i64 r, .int .i64 c, .int .i64 v.kind, .int .i64 v.int, .float .f64 v.flt, .string v.text, .slice EA l.length ecap].toArray 27))
  have HF : Hid (∀ u, Ext w u → Calls Try.prog 87 #[.agg #[.int .i64 k, .int .i64 r, .int .i64 c, .int .i64 v.kind, .int .i64 v.int, .float .f64 v.flt, .string v.text, .slice EA l.length ecap]] u fun ev w' => ev = .returned (.bool (decide (0 ≤ (Ex.mk k r c v l).count 1 400))) ∧ Ext u w') := Lib.hid fun u h => rformed_of (.mk k r c v l) _ u (HX.out u h)
  rw [decide_eq_true hf] at HF
  clear hf
  have q13 : (k == 13) = false := by simpa using h13
  have q12 : (k == 12) = false := by simpa using h12
  go_enter Try.func48, Try.ntmps48
  go_upto_region 3 with (first
    | (refine wpList_ldA (.tmp 15) (vs := [.int .i64 k, .int .i64 r, .int .i64 c, .int .i64 v.kind, .int .i64 v.int, .float .f64 v.flt, .string v.text, .slice EA l.length ecap]) rfl rfl agg_ex rfl (HB1.out.cells) ?_)
    | (go_at_call 87; refine (HF.out _ HE.out).mono ?_; rintro ev w2 ⟨rfl, hb2⟩; have HE2 := Lib.hid (HE.out.trans hb2); have HZ2 := Lib.hid (HB0.out.ext hb2); have HX2 := Lib.hid (HB1.out.ext hb2); clear hb2))
  refine wp_region_held (S := Ext w2) (by kernel_rfl) ?_
  change wpAnyH _ _ _ _ _ _ _ _ w2.drew
  have HS0 : Hid (Ext w2 w2.drew) := Lib.hid (Ext.refl _).drew
  refine held_run (i := 0) (.pointer (some ⟨w.heap.size + 1, 0, none⟩)) rfl (by kernel_rfl) (by kernel_rfl) (by kernel_rfl) (fun _ _ _ h => h) rfl (fun u _ => by go_simp) HS0.out ?_
  simp only [Act.put, List.setIfInBounds_toArray, List.set_cons_zero, List.set_cons_succ]
  refine held_cell (i := 1) (v := (.int .i64 k)) (.tmp 18) rfl rfl (by kernel_rfl) (by kernel_rfl) (by kernel_rfl) (fun _ _ _ h => h) rfl Try.underlying3 rfl rfl (fun u h => by have h9 := (HX2.out.ext h).cells.get 0 _ rfl; simpa using h9) HS0.out ?_
  simp only [Act.put, List.setIfInBounds_toArray, List.set_cons_zero, List.set_cons_succ]
  refine held_run (i := 2) (.bool false) rfl (by kernel_rfl) (by kernel_rfl) (by kernel_rfl) (fun _ _ _ h => h) rfl (fun u _ => by go_simp) HS0.out ?_
  simp only [Act.put, List.setIfInBounds_toArray, List.set_cons_zero, List.set_cons_succ]
  refine held_run (i := 3) (.bool false) rfl (by kernel_rfl) (by kernel_rfl) (by kernel_rfl) (fun _ _ _ h => h) rfl (fun u _ => by go_simp) HS0.out ?_
  simp only [Act.put, List.setIfInBounds_toArray, List.set_cons_zero, List.set_cons_succ]
  refine held_skip (i := 4) rfl (by kernel_rfl) (by kernel_rfl) (by kernel_rfl) (fun _ _ _ h => h) rfl HS0.out ?_
  simp only [Act.put, List.setIfInBounds_toArray, List.set_cons_zero, List.set_cons_succ]
  refine held_skip (i := 5) rfl (by kernel_rfl) (by kernel_rfl) (by kernel_rfl) (fun _ _ _ h => h) rfl HS0.out ?_
  simp only [Act.put, List.setIfInBounds_toArray, List.set_cons_zero, List.set_cons_succ]
  refine held_skip (i := 6) rfl (by kernel_rfl) (by kernel_rfl) (by kernel_rfl) (fun _ _ _ h => h) rfl HS0.out ?_
  simp only [Act.put, List.setIfInBounds_toArray, List.set_cons_zero, List.set_cons_succ]
  refine held_skip (i := 7) rfl (by kernel_rfl) (by kernel_rfl) (by kernel_rfl) (fun _ _ _ h => h) rfl HS0.out ?_
  simp only [Act.put, List.setIfInBounds_toArray, List.set_cons_zero, List.set_cons_succ]
  refine held_skip (i := 8) rfl (by kernel_rfl) (by kernel_rfl) (by kernel_rfl) (fun _ _ _ h => h) rfl HS0.out ?_
  simp only [Act.put, List.setIfInBounds_toArray, List.set_cons_zero, List.set_cons_succ]
  refine held_skip (i := 9) rfl (by kernel_rfl) (by kernel_rfl) (by kernel_rfl) (fun _ _ _ h => h) rfl HS0.out ?_
  simp only [Act.put, List.setIfInBounds_toArray, List.set_cons_zero, List.set_cons_succ]
  refine held_skip (i := 10) rfl (by kernel_rfl) (by kernel_rfl) (by kernel_rfl) (fun _ _ _ h => h) rfl HS0.out ?_
  simp only [Act.put, List.setIfInBounds_toArray, List.set_cons_zero, List.set_cons_succ]
  refine held_run (i := 11) (.bool false) rfl (by kernel_rfl) (by kernel_rfl) (by kernel_rfl) (fun _ _ _ h => h) rfl (fun u _ => by go_simp) HS0.out ?_
  simp only [Act.put, List.setIfInBounds_toArray, List.set_cons_zero, List.set_cons_succ]
  refine wpAnyH_done (by kernel_rfl) ?_ _
  go_upto_region 5 with fail
  have HX2d := Lib.hid (HX2.out.ext (Ext.refl w2).drew)
  refine wp_region_held (S := Ext w2.drew) (by kernel_rfl) ?_
  change wpAnyH _ _ _ _ _ _ _ _ w2.drew.drew
  have HS0 : Hid (Ext w2.drew w2.drew.drew) := Lib.hid (Ext.refl _).drew
  refine held_run (i := 0) (.pointer (some ⟨w.heap.size + 1, 0, none⟩)) rfl (by kernel_rfl) (by kernel_rfl) (by kernel_rfl) (fun _ _ _ h => h) rfl (fun u _ => by go_simp) HS0.out ?_
  simp only [Act.put, List.setIfInBounds_toArray, List.set_cons_zero, List.set_cons_succ]
  refine held_cell (i := 1) (v := (.int .i64 k)) (.tmp 41) rfl rfl (by kernel_rfl) (by kernel_rfl) (by kernel_rfl) (fun _ _ _ h => h) rfl Try.underlying3 rfl rfl (fun u h => by have h9 := (HX2d.out.ext h).cells.get 0 _ rfl; simpa using h9) HS0.out ?_
  simp only [Act.put, List.setIfInBounds_toArray, List.set_cons_zero, List.set_cons_succ]
  refine held_run (i := 2) (.bool false) rfl (by kernel_rfl) (by kernel_rfl) (by kernel_rfl) (fun _ _ _ h => h) rfl (fun u _ => by go_simp) HS0.out ?_
  simp only [Act.put, List.setIfInBounds_toArray, List.set_cons_zero, List.set_cons_succ]
  refine held_run (i := 3) (.bool false) rfl (by kernel_rfl) (by kernel_rfl) (by kernel_rfl) (fun _ _ _ h => h) rfl (fun u _ => by go_simp) HS0.out ?_
  simp only [Act.put, List.setIfInBounds_toArray, List.set_cons_zero, List.set_cons_succ]
  refine held_skip (i := 4) rfl (by kernel_rfl) (by kernel_rfl) (by kernel_rfl) (fun _ _ _ h => h) rfl HS0.out ?_
  simp only [Act.put, List.setIfInBounds_toArray, List.set_cons_zero, List.set_cons_succ]
  refine held_skip (i := 5) rfl (by kernel_rfl) (by kernel_rfl) (by kernel_rfl) (fun _ _ _ h => h) rfl HS0.out ?_
  simp only [Act.put, List.setIfInBounds_toArray, List.set_cons_zero, List.set_cons_succ]
  refine held_skip (i := 6) rfl (by kernel_rfl) (by kernel_rfl) (by kernel_rfl) (fun _ _ _ h => h) rfl HS0.out ?_
  simp only [Act.put, List.setIfInBounds_toArray, List.set_cons_zero, List.set_cons_succ]
  refine held_skip (i := 7) rfl (by kernel_rfl) (by kernel_rfl) (by kernel_rfl) (fun _ _ _ h => h) rfl HS0.out ?_
  simp only [Act.put, List.setIfInBounds_toArray, List.set_cons_zero, List.set_cons_succ]
  refine held_skip (i := 8) rfl (by kernel_rfl) (by kernel_rfl) (by kernel_rfl) (fun _ _ _ h => h) rfl HS0.out ?_
  simp only [Act.put, List.setIfInBounds_toArray, List.set_cons_zero, List.set_cons_succ]
  refine held_skip (i := 9) rfl (by kernel_rfl) (by kernel_rfl) (by kernel_rfl) (fun _ _ _ h => h) rfl HS0.out ?_
  simp only [Act.put, List.setIfInBounds_toArray, List.set_cons_zero, List.set_cons_succ]
  refine held_run (i := 10) (.bool false) rfl (by kernel_rfl) (by kernel_rfl) (by kernel_rfl) (fun _ _ _ h => h) rfl (fun u _ => by go_simp) HS0.out ?_
  simp only [Act.put, List.setIfInBounds_toArray, List.set_cons_zero, List.set_cons_succ]
  refine held_run (i := 11) (.bool false) rfl (by kernel_rfl) (by kernel_rfl) (by kernel_rfl) (fun _ _ _ h => h) rfl (fun u _ => by go_simp) HS0.out ?_
  simp only [Act.put, List.setIfInBounds_toArray, List.set_cons_zero, List.set_cons_succ]
  refine held_skip (i := 12) rfl (by kernel_rfl) (by kernel_rfl) (by kernel_rfl) (fun _ _ _ h => h) rfl HS0.out ?_
  simp only [Act.put, List.setIfInBounds_toArray, List.set_cons_zero, List.set_cons_succ]
  refine held_skip (i := 13) rfl (by kernel_rfl) (by kernel_rfl) (by kernel_rfl) (fun _ _ _ h => h) rfl HS0.out ?_
  simp only [Act.put, List.setIfInBounds_toArray, List.set_cons_zero, List.set_cons_succ]
  refine held_skip (i := 14) rfl (by kernel_rfl) (by kernel_rfl) (by kernel_rfl) (fun _ _ _ h => h) rfl HS0.out ?_
  simp only [Act.put, List.setIfInBounds_toArray, List.set_cons_zero, List.set_cons_succ]
  refine held_skip (i := 15) rfl (by kernel_rfl) (by kernel_rfl) (by kernel_rfl) (fun _ _ _ h => h) rfl HS0.out ?_
  simp only [Act.put, List.setIfInBounds_toArray, List.set_cons_zero, List.set_cons_succ]
  refine held_skip (i := 16) rfl (by kernel_rfl) (by kernel_rfl) (by kernel_rfl) (fun _ _ _ h => h) rfl HS0.out ?_
  simp only [Act.put, List.setIfInBounds_toArray, List.set_cons_zero, List.set_cons_succ]
  refine held_skip (i := 17) rfl (by kernel_rfl) (by kernel_rfl) (by kernel_rfl) (fun _ _ _ h => h) rfl HS0.out ?_
  simp only [Act.put, List.setIfInBounds_toArray, List.set_cons_zero, List.set_cons_succ]
  refine held_skip (i := 18) rfl (by kernel_rfl) (by kernel_rfl) (by kernel_rfl) (fun _ _ _ h => h) rfl HS0.out ?_
  simp only [Act.put, List.setIfInBounds_toArray, List.set_cons_zero, List.set_cons_succ]
  refine held_skip (i := 19) rfl (by kernel_rfl) (by kernel_rfl) (by kernel_rfl) (fun _ _ _ h => h) rfl HS0.out ?_
  simp only [Act.put, List.setIfInBounds_toArray, List.set_cons_zero, List.set_cons_succ]
  refine held_skip (i := 20) rfl (by kernel_rfl) (by kernel_rfl) (by kernel_rfl) (fun _ _ _ h => h) rfl HS0.out ?_
  simp only [Act.put, List.setIfInBounds_toArray, List.set_cons_zero, List.set_cons_succ]
  refine held_skip (i := 21) rfl (by kernel_rfl) (by kernel_rfl) (by kernel_rfl) (fun _ _ _ h => h) rfl HS0.out ?_
  simp only [Act.put, List.setIfInBounds_toArray, List.set_cons_zero, List.set_cons_succ]
  refine held_run (i := 22) (.bool false) rfl (by kernel_rfl) (by kernel_rfl) (by kernel_rfl) (fun _ _ _ h => h) rfl (fun u _ => by go_simp) HS0.out ?_
  simp only [Act.put, List.setIfInBounds_toArray, List.set_cons_zero, List.set_cons_succ]
  refine wpAnyH_done (by kernel_rfl) ?_ _
  obtain ⟨x0, -⟩ := (HX2d.out.ext (Ext.refl _).drew).cells
  try simp only [Nat.zero_add] at x0
  by_cases hl7 : k < 7
  · go_wp2_with fail
    go_ret
    exact ⟨rfl, HE2.out.drew.drew⟩
  · have hg9 : 9 < k := by omega
    go_wp2_with fail
    go_ret
    exact ⟨rfl, HE2.out.drew.drew⟩
set_option maxRecDepth 100000 in
set_option maxHeartbeats 16000000 in
theorem mr_null (zr rel : Int) (cols : List Rng) (zs : Value) (k r c : Int) (v : Val) (l : List Ex) (es : Value) (w : World) (hz : RngsIn w zs cols) (he : Ex.In w (.mk k r c v l) es) (a : Ex) (hl : l = [a]) (hf : 0 ≤ (Ex.mk k r c v l).count 1 400) (hk : k = 13) (hac : 0 ≤ a.col) :
    Calls Try.prog 48 #[.agg #[.int .i64 zr, zs], .int .i64 rel, .agg (exCells k r c v es).toArray] w fun ev w' => ev = .returned (.bool (match colE cols rel a with | some g => decide (0 < g.nulls) | none => true)) ∧ Ext w w' := by
  subst hl hk
  unfold exCells
  obtain ⟨ZA, zcap, rfl, -⟩ := hz.val
  have HZ : Hid (∀ u, Ext w u → RngsIn u (.slice ZA cols.length zcap) cols) := Lib.hid fun u h => hz.ext h
  obtain ⟨hlm, EA, ecap, rfl, hkr⟩ := he.kids
  have HX : Hid (∀ u, Ext w u → Ex.In u (.mk 13 r c v [a]) (.slice EA [a].length ecap)) := Lib.hid fun u h => Ex.In.ext h _ _ he
  have HKI : Hid (ExsIn w (.slice EA [a].length ecap) [a]) := Lib.hid he.kids
  clear hz he hlm hkr
  have HB0 := Lib.hid ((BoxAt.new (w := w) (vs := [.int .i64 zr, .slice ZA cols.length zcap]) (t := 88) rfl rfl).ext ((Ext.refl (w.alloc (.cells [.int .i64 zr, .slice ZA cols.length zcap].toArray 88))).alloc (.cells [.int .i64 13, .int .i64 r, .int .i64 c, .int .i64 v.kind, .int .i64 v.int, .float .f64 v.flt, .string v.text, .slice EA [a].length ecap].toArray 27)))
  have HB1 := Lib.hid (BoxAt.new (w := (w.alloc (.cells [.int .i64 zr, .slice ZA cols.length zcap].toArray 88))) (g := w.heap.size + 1) (vs := [.int .i64 13, .int .i64 r, .int .i64 c, .int .i64 v.kind, .int .i64 v.int, .float .f64 v.flt, .string v.text, .slice EA [a].length ecap]) (t := 27) (by simp) rfl)
  have HE := Lib.hid (((Ext.refl w).alloc (.cells [.int .i64 zr, .slice ZA cols.length zcap].toArray 88)).alloc (.cells [.int .i64 13, .int .i64 r, .int .i64 c, .int .i64 v.kind, .int .i64 v.int, .float .f64 v.flt, .string v.text, .slice EA [a].length ecap].toArray 27))
  have HF : Hid (∀ u, Ext w u → Calls Try.prog 87 #[.agg #[.int .i64 13, .int .i64 r, .int .i64 c, .int .i64 v.kind, .int .i64 v.int, .float .f64 v.flt, .string v.text, .slice EA [a].length ecap]] u fun ev w' => ev = .returned (.bool (decide (0 ≤ (Ex.mk 13 r c v [a]).count 1 400))) ∧ Ext u w') := Lib.hid fun u h => rformed_of (.mk 13 r c v [a]) _ u (HX.out u h)
  rw [decide_eq_true hf] at HF
  clear hf
  simp only [List.length_cons, List.length_nil, Nat.zero_add, Nat.reduceAdd] at *
  obtain ⟨g, o, s1, h1, -, hat, hia, hg⟩ := HKI.out.get 0 (by simp)
  subst h1
  obtain ⟨-, A1, c1, rfl, -⟩ := hia.mk_inv.2.2.2.2
  have HA1 : Hid (∀ u, Ext w u → At u g (o + 0 * 8) [.int .i64 a.kind, .int .i64 a.rel, .int .i64 a.col, .int .i64 a.const.kind, .int .i64 a.const.int, .float .f64 a.const.flt, .string a.const.text, .slice A1 a.kids.length c1]) := Lib.hid fun u h => hat.ext h hg
  have HCC : Hid (∀ u, Ext w u → Calls Try.prog 106 #[.agg #[.int .i64 zr, .slice ZA cols.length zcap], .int .i64 rel, .agg #[.int .i64 a.kind, .int .i64 a.rel, .int .i64 a.col, .int .i64 a.const.kind, .int .i64 a.const.int, .float .f64 a.const.flt, .string a.const.text, .slice A1 a.kids.length c1]] u fun ev w' => ev = .returned (.bool (colE cols rel a).isSome) ∧ Ext u w') := Lib.hid fun u h => known_of zr rel cols _ a _ u (HZ.out u h) (Ex.In.ext h _ _ hia) hac
  clear hat hia HKI HX
  cases hc : colE cols rel a with
  | none =>
    rw [hc] at HCC
    clear hc HZ hac
    go_enter Try.func48, Try.ntmps48
    go_upto_region 3 with (first
      | (refine wpList_ldA (.tmp 15) (vs := [.int .i64 13, .int .i64 r, .int .i64 c, .int .i64 v.kind, .int .i64 v.int, .float .f64 v.flt, .string v.text, .slice (some ⟨g, o, none⟩) 1 ecap]) rfl rfl agg_ex rfl (HB1.out.cells) ?_)
      | (go_at_call 87; refine (HF.out _ HE.out).mono ?_; rintro ev w2 ⟨rfl, hb2⟩; have HE2 := Lib.hid (HE.out.trans hb2); have HZ2 := Lib.hid (HB0.out.ext hb2); have HX2 := Lib.hid (HB1.out.ext hb2); clear hb2))
    refine wp_region_held (S := Ext w2) (by kernel_rfl) ?_
    change wpAnyH _ _ _ _ _ _ _ _ w2.drew
    have HS0 : Hid (Ext w2 w2.drew) := Lib.hid (Ext.refl _).drew
    refine held_run (i := 0) (.pointer (some ⟨w.heap.size + 1, 0, none⟩)) rfl (by kernel_rfl) (by kernel_rfl) (by kernel_rfl) (fun _ _ _ h => h) rfl (fun u _ => by go_simp) HS0.out ?_
    simp only [Act.put, List.setIfInBounds_toArray, List.set_cons_zero, List.set_cons_succ]
    refine held_cell (i := 1) (v := (.int .i64 13)) (.tmp 18) rfl rfl (by kernel_rfl) (by kernel_rfl) (by kernel_rfl) (fun _ _ _ h => h) rfl Try.underlying3 rfl rfl (fun u h => by have h9 := (HX2.out.ext h).cells.get 0 _ rfl; simpa using h9) HS0.out ?_
    simp only [Act.put, List.setIfInBounds_toArray, List.set_cons_zero, List.set_cons_succ]
    refine held_run (i := 2) (.bool true) rfl (by kernel_rfl) (by kernel_rfl) (by kernel_rfl) (fun _ _ _ h => h) rfl (fun u _ => by go_simp) HS0.out ?_
    simp only [Act.put, List.setIfInBounds_toArray, List.set_cons_zero, List.set_cons_succ]
    refine held_run (i := 3) (.bool true) rfl (by kernel_rfl) (by kernel_rfl) (by kernel_rfl) (fun _ _ _ h => h) rfl (fun u _ => by go_simp) HS0.out ?_
    simp only [Act.put, List.setIfInBounds_toArray, List.set_cons_zero, List.set_cons_succ]
    refine held_loadA (i := 4) (vs := [.int .i64 zr, .slice ZA cols.length zcap]) (.tmp 3) rfl rfl (by kernel_rfl) (by kernel_rfl) (by kernel_rfl) (fun _ _ _ h => h) rfl agg_zoneR rfl (fun u h => (HZ2.out.ext h).cells) HS0.out ?_
    simp only [Act.put, List.setIfInBounds_toArray, List.set_cons_zero, List.set_cons_succ]
    refine held_run (i := 5) (.int .i64 rel) rfl (by kernel_rfl) (by kernel_rfl) (by kernel_rfl) (fun _ _ _ h => h) rfl (fun u _ => by go_simp) HS0.out ?_
    simp only [Act.put, List.setIfInBounds_toArray, List.set_cons_zero, List.set_cons_succ]
    refine held_run (i := 6) (.pointer (some ⟨w.heap.size + 1, 7, none⟩)) rfl (by kernel_rfl) (by kernel_rfl) (by kernel_rfl) (fun _ _ _ h => h) rfl (fun u _ => by go_simp) HS0.out ?_
    simp only [Act.put, List.setIfInBounds_toArray, List.set_cons_zero, List.set_cons_succ]
    refine held_cell (i := 7) (v := (.slice (some ⟨g, o, none⟩) 1 ecap)) (.tmp 24) rfl rfl (by kernel_rfl) (by kernel_rfl) (by kernel_rfl) (fun _ _ _ h => h) rfl Try.underlying25 rfl rfl (fun u h => by have h9 := (HX2.out.ext h).cells.get 7 _ rfl; simpa using h9) HS0.out ?_
    simp only [Act.put, List.setIfInBounds_toArray, List.set_cons_zero, List.set_cons_succ]
    refine held_idxS (i := 8) 0 (.tmp 25) (.const (.int .i64 0)) rfl rfl (by kernel_rfl) (by kernel_rfl) (by kernel_rfl) (fun _ _ _ h => h) rfl Try.underlying25 size_ex rfl rfl (by decide) HS0.out ?_
    simp only [Act.put, List.setIfInBounds_toArray, List.set_cons_zero, List.set_cons_succ]
    refine held_loadA (i := 9) (vs := [.int .i64 a.kind, .int .i64 a.rel, .int .i64 a.col, .int .i64 a.const.kind, .int .i64 a.const.int, .float .f64 a.const.flt, .string a.const.text, .slice A1 a.kids.length c1]) (.tmp 26) rfl rfl (by kernel_rfl) (by kernel_rfl) (by kernel_rfl) (fun _ _ _ h => h) rfl agg_ex rfl (fun u h => HA1.out u (HE2.out.trans h)) HS0.out ?_
    simp only [Act.put, List.setIfInBounds_toArray, List.set_cons_zero, List.set_cons_succ]
    refine held_do (i := 10) rfl (by kernel_rfl) rfl fun K hK => ?_
    refine wp_callF (fun x w' => x = .bool false ∧ Ext w2.drew w') (fun u => by go_simp) ((HCC.out w2.drew (HE2.out.trans HS0.out)).mono fun e w' h => ⟨_, h.1, rfl, h.2⟩) ?_
    rintro _ w5 ⟨rfl, he5⟩
    have HS5 : Hid (Ext w2 w5) := Lib.hid (HS0.out.trans he5)
    refine hK _ _ HS5.out ?_
    try simp only [Act.put, List.setIfInBounds_toArray, List.set_cons_zero, List.set_cons_succ]
    clear hK K he5
    refine held_run (i := 11) (.bool false) rfl (by kernel_rfl) (by kernel_rfl) (by kernel_rfl) (fun _ _ _ h => h) rfl (fun u _ => by go_simp) HS5.out ?_
    simp only [Act.put, List.setIfInBounds_toArray, List.set_cons_zero, List.set_cons_succ]
    refine wpAnyH_done (by kernel_rfl) ?_ _
    go_upto_region 5 with fail
    have HX5 := Lib.hid (HX2.out.ext HS5.out)
    refine wp_region_held (S := Ext w5) (by kernel_rfl) ?_
    change wpAnyH _ _ _ _ _ _ _ _ w5.drew
    have HS0 : Hid (Ext w5 w5.drew) := Lib.hid (Ext.refl _).drew
    refine held_run (i := 0) (.pointer (some ⟨w.heap.size + 1, 0, none⟩)) rfl (by kernel_rfl) (by kernel_rfl) (by kernel_rfl) (fun _ _ _ h => h) rfl (fun u _ => by go_simp) HS0.out ?_
    simp only [Act.put, List.setIfInBounds_toArray, List.set_cons_zero, List.set_cons_succ]
    refine held_cell (i := 1) (v := (.int .i64 13)) (.tmp 41) rfl rfl (by kernel_rfl) (by kernel_rfl) (by kernel_rfl) (fun _ _ _ h => h) rfl Try.underlying3 rfl rfl (fun u h => by have h9 := (HX5.out.ext h).cells.get 0 _ rfl; simpa using h9) HS0.out ?_
    simp only [Act.put, List.setIfInBounds_toArray, List.set_cons_zero, List.set_cons_succ]
    refine held_run (i := 2) (.bool false) rfl (by kernel_rfl) (by kernel_rfl) (by kernel_rfl) (fun _ _ _ h => h) rfl (fun u _ => by go_simp) HS0.out ?_
    simp only [Act.put, List.setIfInBounds_toArray, List.set_cons_zero, List.set_cons_succ]
    refine held_run (i := 3) (.bool false) rfl (by kernel_rfl) (by kernel_rfl) (by kernel_rfl) (fun _ _ _ h => h) rfl (fun u _ => by go_simp) HS0.out ?_
    simp only [Act.put, List.setIfInBounds_toArray, List.set_cons_zero, List.set_cons_succ]
    refine held_skip (i := 4) rfl (by kernel_rfl) (by kernel_rfl) (by kernel_rfl) (fun _ _ _ h => h) rfl HS0.out ?_
    simp only [Act.put, List.setIfInBounds_toArray, List.set_cons_zero, List.set_cons_succ]
    refine held_skip (i := 5) rfl (by kernel_rfl) (by kernel_rfl) (by kernel_rfl) (fun _ _ _ h => h) rfl HS0.out ?_
    simp only [Act.put, List.setIfInBounds_toArray, List.set_cons_zero, List.set_cons_succ]
    refine held_skip (i := 6) rfl (by kernel_rfl) (by kernel_rfl) (by kernel_rfl) (fun _ _ _ h => h) rfl HS0.out ?_
    simp only [Act.put, List.setIfInBounds_toArray, List.set_cons_zero, List.set_cons_succ]
    refine held_skip (i := 7) rfl (by kernel_rfl) (by kernel_rfl) (by kernel_rfl) (fun _ _ _ h => h) rfl HS0.out ?_
    simp only [Act.put, List.setIfInBounds_toArray, List.set_cons_zero, List.set_cons_succ]
    refine held_skip (i := 8) rfl (by kernel_rfl) (by kernel_rfl) (by kernel_rfl) (fun _ _ _ h => h) rfl HS0.out ?_
    simp only [Act.put, List.setIfInBounds_toArray, List.set_cons_zero, List.set_cons_succ]
    refine held_skip (i := 9) rfl (by kernel_rfl) (by kernel_rfl) (by kernel_rfl) (fun _ _ _ h => h) rfl HS0.out ?_
    simp only [Act.put, List.setIfInBounds_toArray, List.set_cons_zero, List.set_cons_succ]
    refine held_run (i := 10) (.bool false) rfl (by kernel_rfl) (by kernel_rfl) (by kernel_rfl) (fun _ _ _ h => h) rfl (fun u _ => by go_simp) HS0.out ?_
    simp only [Act.put, List.setIfInBounds_toArray, List.set_cons_zero, List.set_cons_succ]
    refine held_run (i := 11) (.bool false) rfl (by kernel_rfl) (by kernel_rfl) (by kernel_rfl) (fun _ _ _ h => h) rfl (fun u _ => by go_simp) HS0.out ?_
    simp only [Act.put, List.setIfInBounds_toArray, List.set_cons_zero, List.set_cons_succ]
    refine held_skip (i := 12) rfl (by kernel_rfl) (by kernel_rfl) (by kernel_rfl) (fun _ _ _ h => h) rfl HS0.out ?_
    simp only [Act.put, List.setIfInBounds_toArray, List.set_cons_zero, List.set_cons_succ]
    refine held_skip (i := 13) rfl (by kernel_rfl) (by kernel_rfl) (by kernel_rfl) (fun _ _ _ h => h) rfl HS0.out ?_
    simp only [Act.put, List.setIfInBounds_toArray, List.set_cons_zero, List.set_cons_succ]
    refine held_skip (i := 14) rfl (by kernel_rfl) (by kernel_rfl) (by kernel_rfl) (fun _ _ _ h => h) rfl HS0.out ?_
    simp only [Act.put, List.setIfInBounds_toArray, List.set_cons_zero, List.set_cons_succ]
    refine held_skip (i := 15) rfl (by kernel_rfl) (by kernel_rfl) (by kernel_rfl) (fun _ _ _ h => h) rfl HS0.out ?_
    simp only [Act.put, List.setIfInBounds_toArray, List.set_cons_zero, List.set_cons_succ]
    refine held_skip (i := 16) rfl (by kernel_rfl) (by kernel_rfl) (by kernel_rfl) (fun _ _ _ h => h) rfl HS0.out ?_
    simp only [Act.put, List.setIfInBounds_toArray, List.set_cons_zero, List.set_cons_succ]
    refine held_skip (i := 17) rfl (by kernel_rfl) (by kernel_rfl) (by kernel_rfl) (fun _ _ _ h => h) rfl HS0.out ?_
    simp only [Act.put, List.setIfInBounds_toArray, List.set_cons_zero, List.set_cons_succ]
    refine held_skip (i := 18) rfl (by kernel_rfl) (by kernel_rfl) (by kernel_rfl) (fun _ _ _ h => h) rfl HS0.out ?_
    simp only [Act.put, List.setIfInBounds_toArray, List.set_cons_zero, List.set_cons_succ]
    refine held_skip (i := 19) rfl (by kernel_rfl) (by kernel_rfl) (by kernel_rfl) (fun _ _ _ h => h) rfl HS0.out ?_
    simp only [Act.put, List.setIfInBounds_toArray, List.set_cons_zero, List.set_cons_succ]
    refine held_skip (i := 20) rfl (by kernel_rfl) (by kernel_rfl) (by kernel_rfl) (fun _ _ _ h => h) rfl HS0.out ?_
    simp only [Act.put, List.setIfInBounds_toArray, List.set_cons_zero, List.set_cons_succ]
    refine held_skip (i := 21) rfl (by kernel_rfl) (by kernel_rfl) (by kernel_rfl) (fun _ _ _ h => h) rfl HS0.out ?_
    simp only [Act.put, List.setIfInBounds_toArray, List.set_cons_zero, List.set_cons_succ]
    refine held_run (i := 22) (.bool false) rfl (by kernel_rfl) (by kernel_rfl) (by kernel_rfl) (fun _ _ _ h => h) rfl (fun u _ => by go_simp) HS0.out ?_
    simp only [Act.put, List.setIfInBounds_toArray, List.set_cons_zero, List.set_cons_succ]
    refine wpAnyH_done (by kernel_rfl) ?_ _
    obtain ⟨x0, -⟩ := (HX5.out.ext (Ext.refl w5).drew).cells
    try simp only [Nat.zero_add] at x0
    go_wp2_with fail
    go_ret
    exact ⟨rfl, (HE2.out.trans HS5.out).drew⟩
  | some q =>
    rw [hc] at HCC
    obtain ⟨n, hn, hq⟩ : ∃ n : Nat, a.col = (n : Int) ∧ cols[n]? = some q := by
      unfold colE at hc
      split at hc
      · split at hc
        · exact ⟨a.col.toNat, by omega, hc⟩
        · cases hc
      · cases hc
    obtain ⟨hn1, hn2⟩ := List.getElem?_eq_some_iff.1 hq
    obtain ⟨gz, oz, rfl, hqa, hqg⟩ := (HZ.out w (Ext.refl _)).at_ n hn1
    have HQA : Hid (∀ u, Ext w u → At u gz (oz + n * 10) q.cells) := Lib.hid fun u h => by have h9 := hqa.ext h hqg; rw [hn2] at h9; exact h9
    clear hc HZ hac hqa hqg hn2 hq
    unfold Rng.cells at HQA
    have HA1n : Hid (∀ u, Ext w u → At u g (o + 0 * 8) [.int .i64 a.kind, .int .i64 a.rel, .int .i64 (n : Int), .int .i64 a.const.kind, .int .i64 a.const.int, .float .f64 a.const.flt, .string a.const.text, .slice A1 a.kids.length c1]) := Lib.hid (by rw [← hn]; exact HA1.out)
    have HCCn : Hid (∀ u, Ext w u → Calls Try.prog 106 #[.agg #[.int .i64 zr, .slice (some ⟨gz, oz, none⟩) cols.length zcap], .int .i64 rel, .agg #[.int .i64 a.kind, .int .i64 a.rel, .int .i64 (n : Int), .int .i64 a.const.kind, .int .i64 a.const.int, .float .f64 a.const.flt, .string a.const.text, .slice A1 a.kids.length c1]] u fun ev w' => ev = .returned (.bool (Option.isSome (some q))) ∧ Ext u w') := Lib.hid (by rw [← hn]; exact HCC.out)
    clear HA1 HCC hn
    have HA1 := HA1n; have HCC := HCCn
    clear HA1n HCCn
    go_enter Try.func48, Try.ntmps48
    go_upto_region 3 with (first
      | (refine wpList_ldA (.tmp 15) (vs := [.int .i64 13, .int .i64 r, .int .i64 c, .int .i64 v.kind, .int .i64 v.int, .float .f64 v.flt, .string v.text, .slice (some ⟨g, o, none⟩) 1 ecap]) rfl rfl agg_ex rfl (HB1.out.cells) ?_)
      | (go_at_call 87; refine (HF.out _ HE.out).mono ?_; rintro ev w2 ⟨rfl, hb2⟩; have HE2 := Lib.hid (HE.out.trans hb2); have HZ2 := Lib.hid (HB0.out.ext hb2); have HX2 := Lib.hid (HB1.out.ext hb2); clear hb2))
    refine wp_region_held (S := Ext w2) (by kernel_rfl) ?_
    change wpAnyH _ _ _ _ _ _ _ _ w2.drew
    have HS0 : Hid (Ext w2 w2.drew) := Lib.hid (Ext.refl _).drew
    refine held_run (i := 0) (.pointer (some ⟨w.heap.size + 1, 0, none⟩)) rfl (by kernel_rfl) (by kernel_rfl) (by kernel_rfl) (fun _ _ _ h => h) rfl (fun u _ => by go_simp) HS0.out ?_
    simp only [Act.put, List.setIfInBounds_toArray, List.set_cons_zero, List.set_cons_succ]
    refine held_cell (i := 1) (v := (.int .i64 13)) (.tmp 18) rfl rfl (by kernel_rfl) (by kernel_rfl) (by kernel_rfl) (fun _ _ _ h => h) rfl Try.underlying3 rfl rfl (fun u h => by have h9 := (HX2.out.ext h).cells.get 0 _ rfl; simpa using h9) HS0.out ?_
    simp only [Act.put, List.setIfInBounds_toArray, List.set_cons_zero, List.set_cons_succ]
    refine held_run (i := 2) (.bool true) rfl (by kernel_rfl) (by kernel_rfl) (by kernel_rfl) (fun _ _ _ h => h) rfl (fun u _ => by go_simp) HS0.out ?_
    simp only [Act.put, List.setIfInBounds_toArray, List.set_cons_zero, List.set_cons_succ]
    refine held_run (i := 3) (.bool true) rfl (by kernel_rfl) (by kernel_rfl) (by kernel_rfl) (fun _ _ _ h => h) rfl (fun u _ => by go_simp) HS0.out ?_
    simp only [Act.put, List.setIfInBounds_toArray, List.set_cons_zero, List.set_cons_succ]
    refine held_loadA (i := 4) (vs := [.int .i64 zr, .slice (some ⟨gz, oz, none⟩) cols.length zcap]) (.tmp 3) rfl rfl (by kernel_rfl) (by kernel_rfl) (by kernel_rfl) (fun _ _ _ h => h) rfl agg_zoneR rfl (fun u h => (HZ2.out.ext h).cells) HS0.out ?_
    simp only [Act.put, List.setIfInBounds_toArray, List.set_cons_zero, List.set_cons_succ]
    refine held_run (i := 5) (.int .i64 rel) rfl (by kernel_rfl) (by kernel_rfl) (by kernel_rfl) (fun _ _ _ h => h) rfl (fun u _ => by go_simp) HS0.out ?_
    simp only [Act.put, List.setIfInBounds_toArray, List.set_cons_zero, List.set_cons_succ]
    refine held_run (i := 6) (.pointer (some ⟨w.heap.size + 1, 7, none⟩)) rfl (by kernel_rfl) (by kernel_rfl) (by kernel_rfl) (fun _ _ _ h => h) rfl (fun u _ => by go_simp) HS0.out ?_
    simp only [Act.put, List.setIfInBounds_toArray, List.set_cons_zero, List.set_cons_succ]
    refine held_cell (i := 7) (v := (.slice (some ⟨g, o, none⟩) 1 ecap)) (.tmp 24) rfl rfl (by kernel_rfl) (by kernel_rfl) (by kernel_rfl) (fun _ _ _ h => h) rfl Try.underlying25 rfl rfl (fun u h => by have h9 := (HX2.out.ext h).cells.get 7 _ rfl; simpa using h9) HS0.out ?_
    simp only [Act.put, List.setIfInBounds_toArray, List.set_cons_zero, List.set_cons_succ]
    refine held_idxS (i := 8) 0 (.tmp 25) (.const (.int .i64 0)) rfl rfl (by kernel_rfl) (by kernel_rfl) (by kernel_rfl) (fun _ _ _ h => h) rfl Try.underlying25 size_ex rfl rfl (by decide) HS0.out ?_
    simp only [Act.put, List.setIfInBounds_toArray, List.set_cons_zero, List.set_cons_succ]
    refine held_loadA (i := 9) (vs := [.int .i64 a.kind, .int .i64 a.rel, .int .i64 (n : Int), .int .i64 a.const.kind, .int .i64 a.const.int, .float .f64 a.const.flt, .string a.const.text, .slice A1 a.kids.length c1]) (.tmp 26) rfl rfl (by kernel_rfl) (by kernel_rfl) (by kernel_rfl) (fun _ _ _ h => h) rfl agg_ex rfl (fun u h => HA1.out u (HE2.out.trans h)) HS0.out ?_
    simp only [Act.put, List.setIfInBounds_toArray, List.set_cons_zero, List.set_cons_succ]
    refine held_do (i := 10) rfl (by kernel_rfl) rfl fun K hK => ?_
    refine wp_callF (fun x w' => x = .bool true ∧ Ext w2.drew w') (fun u => by go_simp) ((HCC.out w2.drew (HE2.out.trans HS0.out)).mono fun e w' h => ⟨_, h.1, rfl, h.2⟩) ?_
    rintro _ w5 ⟨rfl, he5⟩
    have HS5 : Hid (Ext w2 w5) := Lib.hid (HS0.out.trans he5)
    refine hK _ _ HS5.out ?_
    try simp only [Act.put, List.setIfInBounds_toArray, List.set_cons_zero, List.set_cons_succ]
    clear hK K he5
    refine held_run (i := 11) (.bool true) rfl (by kernel_rfl) (by kernel_rfl) (by kernel_rfl) (fun _ _ _ h => h) rfl (fun u _ => by go_simp) HS5.out ?_
    simp only [Act.put, List.setIfInBounds_toArray, List.set_cons_zero, List.set_cons_succ]
    refine wpAnyH_done (by kernel_rfl) ?_ _
    go_upto_region 4 with fail
    have HX5 := Lib.hid (HX2.out.ext HS5.out); have HZ5 := Lib.hid (HZ2.out.ext HS5.out); have HE5 := Lib.hid (HE2.out.trans HS5.out)
    clear HS0
    refine wp_region_held (S := Ext w5) (by kernel_rfl) ?_
    change wpAnyH _ _ _ _ _ _ _ _ w5.drew
    have HS0 : Hid (Ext w5 w5.drew) := Lib.hid (Ext.refl _).drew
    refine held_run (i := 0) (.pointer (some ⟨w.heap.size, 1, none⟩)) rfl (by kernel_rfl) (by kernel_rfl) (by kernel_rfl) (fun _ _ _ h => h) rfl (fun u _ => by go_simp) HS0.out ?_
    simp only [Act.put, List.setIfInBounds_toArray, List.set_cons_zero, List.set_cons_succ]
    refine held_cell (i := 1) (v := (.slice (some ⟨gz, oz, none⟩) cols.length zcap)) (.tmp 30) rfl rfl (by kernel_rfl) (by kernel_rfl) (by kernel_rfl) (fun _ _ _ h => h) rfl Try.underlying86 rfl rfl (fun u h => by have h9 := (HZ5.out.ext h).cells.get 1 _ rfl; simpa using h9) HS0.out ?_
    simp only [Act.put, List.setIfInBounds_toArray, List.set_cons_zero, List.set_cons_succ]
    refine held_run (i := 2) (.pointer (some ⟨w.heap.size + 1, 7, none⟩)) rfl (by kernel_rfl) (by kernel_rfl) (by kernel_rfl) (fun _ _ _ h => h) rfl (fun u _ => by go_simp) HS0.out ?_
    simp only [Act.put, List.setIfInBounds_toArray, List.set_cons_zero, List.set_cons_succ]
    refine held_cell (i := 3) (v := (.slice (some ⟨g, o, none⟩) 1 ecap)) (.tmp 32) rfl rfl (by kernel_rfl) (by kernel_rfl) (by kernel_rfl) (fun _ _ _ h => h) rfl Try.underlying25 rfl rfl (fun u h => by have h9 := (HX5.out.ext h).cells.get 7 _ rfl; simpa using h9) HS0.out ?_
    simp only [Act.put, List.setIfInBounds_toArray, List.set_cons_zero, List.set_cons_succ]
    refine held_idxS (i := 4) 0 (.tmp 33) (.const (.int .i64 0)) rfl rfl (by kernel_rfl) (by kernel_rfl) (by kernel_rfl) (fun _ _ _ h => h) rfl Try.underlying25 size_ex rfl rfl (by decide) HS0.out ?_
    simp only [Act.put, List.setIfInBounds_toArray, List.set_cons_zero, List.set_cons_succ]
    refine held_run (i := 5) (.pointer (some ⟨g, o + 0 * 8 + 2, none⟩)) rfl (by kernel_rfl) (by kernel_rfl) (by kernel_rfl) (fun _ _ _ h => h) rfl (fun u _ => by go_simp) HS0.out ?_
    simp only [Act.put, List.setIfInBounds_toArray, List.set_cons_zero, List.set_cons_succ]
    refine held_cell (i := 6) (v := (.int .i64 (n : Int))) (.tmp 35) rfl rfl (by kernel_rfl) (by kernel_rfl) (by kernel_rfl) (fun _ _ _ h => h) rfl Try.underlying3 rfl rfl (fun u h => by have h9 := (HA1.out u (HE5.out.trans h)).get 2 _ rfl; simpa using h9) HS0.out ?_
    simp only [Act.put, List.setIfInBounds_toArray, List.set_cons_zero, List.set_cons_succ]
    refine held_idxS (i := 7) n (.tmp 31) (.tmp 36) rfl rfl (by kernel_rfl) (by kernel_rfl) (by kernel_rfl) (fun _ _ _ h => h) rfl Try.underlying86 size_rngR9 rfl rfl hn1 HS0.out ?_
    simp only [Act.put, List.setIfInBounds_toArray, List.set_cons_zero, List.set_cons_succ]
    refine held_run (i := 8) (.pointer (some ⟨gz, oz + n * 10 + 1, none⟩)) rfl (by kernel_rfl) (by kernel_rfl) (by kernel_rfl) (fun _ _ _ h => h) rfl (fun u _ => by go_simp) HS0.out ?_
    simp only [Act.put, List.setIfInBounds_toArray, List.set_cons_zero, List.set_cons_succ]
    refine held_cell (i := 9) (v := (.int .i64 q.nulls)) (.tmp 38) rfl rfl (by kernel_rfl) (by kernel_rfl) (by kernel_rfl) (fun _ _ _ h => h) rfl Try.underlying3 rfl rfl (fun u h => by have h9 := (HQA.out u (HE5.out.trans h)).get 1 _ rfl; simpa using h9) HS0.out ?_
    simp only [Act.put, List.setIfInBounds_toArray, List.set_cons_zero, List.set_cons_succ]
    refine held_run (i := 10) (.bool (decide (0 < q.nulls))) rfl (by kernel_rfl) (by kernel_rfl) (by kernel_rfl) (fun _ _ _ h => h) rfl (fun u _ => by go_simp) HS0.out ?_
    simp only [Act.put, List.setIfInBounds_toArray, List.set_cons_zero, List.set_cons_succ]
    refine held_run (i := 11) (.bool (decide (0 < q.nulls))) rfl (by kernel_rfl) (by kernel_rfl) (by kernel_rfl) (fun _ _ _ h => h) rfl (fun u _ => by go_simp) HS0.out ?_
    simp only [Act.put, List.setIfInBounds_toArray, List.set_cons_zero, List.set_cons_succ]
    refine wpAnyH_done (by kernel_rfl) ?_ _
    go_wp2_with fail
    go_ret
    exact ⟨rfl, HE5.out.drew⟩
set_option maxRecDepth 100000 in
set_option maxHeartbeats 16000000 in
theorem mr_not_no (zr rel : Int) (cols : List Rng) (zs : Value) (k r c : Int) (v : Val) (l : List Ex) (es : Value) (w : World) (hz : RngsIn w zs cols) (he : Ex.In w (.mk k r c v l) es) (kx rx cx : Int) (vx : Val) (lx : List Ex) (hl : l = [.mk kx rx cx vx lx]) (hf : 0 ≤ (Ex.mk k r c v l).count 1 400) (hk : k = 12) (hkx : ¬ kx = 13) :
    Calls Try.prog 48 #[.agg #[.int .i64 zr, zs], .int .i64 rel, .agg (exCells k r c v es).toArray] w fun ev w' => ev = .returned (.bool (true)) ∧ Ext w w' := by
  subst hl hk
  unfold exCells
  obtain ⟨ZA, zcap, rfl, -⟩ := hz.val
  have HZ : Hid (∀ u, Ext w u → RngsIn u (.slice ZA cols.length zcap) cols) := Lib.hid fun u h => hz.ext h
  obtain ⟨hlm, EA, ecap, rfl, hkr⟩ := he.kids
  have HX : Hid (∀ u, Ext w u → Ex.In u (.mk 12 r c v [Ex.mk kx rx cx vx lx]) (.slice EA [Ex.mk kx rx cx vx lx].length ecap)) := Lib.hid fun u h => Ex.In.ext h _ _ he
  have HKI : Hid (ExsIn w (.slice EA [Ex.mk kx rx cx vx lx].length ecap) [Ex.mk kx rx cx vx lx]) := Lib.hid he.kids
  clear hz he hlm hkr
  have HB0 := Lib.hid ((BoxAt.new (w := w) (vs := [.int .i64 zr, .slice ZA cols.length zcap]) (t := 88) rfl rfl).ext ((Ext.refl (w.alloc (.cells [.int .i64 zr, .slice ZA cols.length zcap].toArray 88))).alloc (.cells [.int .i64 12, .int .i64 r, .int .i64 c, .int .i64 v.kind, .int .i64 v.int, .float .f64 v.flt, .string v.text, .slice EA [Ex.mk kx rx cx vx lx].length ecap].toArray 27)))
  have HB1 := Lib.hid (BoxAt.new (w := (w.alloc (.cells [.int .i64 zr, .slice ZA cols.length zcap].toArray 88))) (g := w.heap.size + 1) (vs := [.int .i64 12, .int .i64 r, .int .i64 c, .int .i64 v.kind, .int .i64 v.int, .float .f64 v.flt, .string v.text, .slice EA [Ex.mk kx rx cx vx lx].length ecap]) (t := 27) (by simp) rfl)
  have HE := Lib.hid (((Ext.refl w).alloc (.cells [.int .i64 zr, .slice ZA cols.length zcap].toArray 88)).alloc (.cells [.int .i64 12, .int .i64 r, .int .i64 c, .int .i64 v.kind, .int .i64 v.int, .float .f64 v.flt, .string v.text, .slice EA [Ex.mk kx rx cx vx lx].length ecap].toArray 27))
  have HF : Hid (∀ u, Ext w u → Calls Try.prog 87 #[.agg #[.int .i64 12, .int .i64 r, .int .i64 c, .int .i64 v.kind, .int .i64 v.int, .float .f64 v.flt, .string v.text, .slice EA [Ex.mk kx rx cx vx lx].length ecap]] u fun ev w' => ev = .returned (.bool (decide (0 ≤ (Ex.mk 12 r c v [Ex.mk kx rx cx vx lx]).count 1 400))) ∧ Ext u w') := Lib.hid fun u h => rformed_of (.mk 12 r c v [Ex.mk kx rx cx vx lx]) _ u (HX.out u h)
  rw [decide_eq_true hf] at HF
  clear hf
  simp only [List.length_cons, List.length_nil, Nat.zero_add, Nat.reduceAdd] at *
  obtain ⟨g, o, s1, h1, -, hat, hix, hg⟩ := HKI.out.get 0 (by simp)
  subst h1
  obtain ⟨-, X1, xc, rfl, -⟩ := hix.mk_inv.2.2.2.2
  have HXA : Hid (∀ u, Ext w u → At u g (o + 0 * 8) [.int .i64 kx, .int .i64 rx, .int .i64 cx, .int .i64 vx.kind, .int .i64 vx.int, .float .f64 vx.flt, .string vx.text, .slice X1 lx.length xc]) := Lib.hid fun u h => hat.ext h hg
  have qx : (kx == 13) = false := by simpa using hkx
  clear hat hix hkx HKI HX HZ
  go_enter Try.func48, Try.ntmps48
  go_upto_region 3 with (first
    | (refine wpList_ldA (.tmp 15) (vs := [.int .i64 12, .int .i64 r, .int .i64 c, .int .i64 v.kind, .int .i64 v.int, .float .f64 v.flt, .string v.text, .slice (some ⟨g, o, none⟩) 1 ecap]) rfl rfl agg_ex rfl (HB1.out.cells) ?_)
    | (go_at_call 87; refine (HF.out _ HE.out).mono ?_; rintro ev w2 ⟨rfl, hb2⟩; have HE2 := Lib.hid (HE.out.trans hb2); have HZ2 := Lib.hid (HB0.out.ext hb2); have HX2 := Lib.hid (HB1.out.ext hb2); clear hb2))
  refine wp_region_held (S := Ext w2) (by kernel_rfl) ?_
  change wpAnyH _ _ _ _ _ _ _ _ w2.drew
  have HS0 : Hid (Ext w2 w2.drew) := Lib.hid (Ext.refl _).drew
  refine held_run (i := 0) (.pointer (some ⟨w.heap.size + 1, 0, none⟩)) rfl (by kernel_rfl) (by kernel_rfl) (by kernel_rfl) (fun _ _ _ h => h) rfl (fun u _ => by go_simp) HS0.out ?_
  simp only [Act.put, List.setIfInBounds_toArray, List.set_cons_zero, List.set_cons_succ]
  refine held_cell (i := 1) (v := (.int .i64 12)) (.tmp 18) rfl rfl (by kernel_rfl) (by kernel_rfl) (by kernel_rfl) (fun _ _ _ h => h) rfl Try.underlying3 rfl rfl (fun u h => by have h9 := (HX2.out.ext h).cells.get 0 _ rfl; simpa using h9) HS0.out ?_
  simp only [Act.put, List.setIfInBounds_toArray, List.set_cons_zero, List.set_cons_succ]
  refine held_run (i := 2) (.bool false) rfl (by kernel_rfl) (by kernel_rfl) (by kernel_rfl) (fun _ _ _ h => h) rfl (fun u _ => by go_simp) HS0.out ?_
  simp only [Act.put, List.setIfInBounds_toArray, List.set_cons_zero, List.set_cons_succ]
  refine held_run (i := 3) (.bool false) rfl (by kernel_rfl) (by kernel_rfl) (by kernel_rfl) (fun _ _ _ h => h) rfl (fun u _ => by go_simp) HS0.out ?_
  simp only [Act.put, List.setIfInBounds_toArray, List.set_cons_zero, List.set_cons_succ]
  refine held_skip (i := 4) rfl (by kernel_rfl) (by kernel_rfl) (by kernel_rfl) (fun _ _ _ h => h) rfl HS0.out ?_
  simp only [Act.put, List.setIfInBounds_toArray, List.set_cons_zero, List.set_cons_succ]
  refine held_skip (i := 5) rfl (by kernel_rfl) (by kernel_rfl) (by kernel_rfl) (fun _ _ _ h => h) rfl HS0.out ?_
  simp only [Act.put, List.setIfInBounds_toArray, List.set_cons_zero, List.set_cons_succ]
  refine held_skip (i := 6) rfl (by kernel_rfl) (by kernel_rfl) (by kernel_rfl) (fun _ _ _ h => h) rfl HS0.out ?_
  simp only [Act.put, List.setIfInBounds_toArray, List.set_cons_zero, List.set_cons_succ]
  refine held_skip (i := 7) rfl (by kernel_rfl) (by kernel_rfl) (by kernel_rfl) (fun _ _ _ h => h) rfl HS0.out ?_
  simp only [Act.put, List.setIfInBounds_toArray, List.set_cons_zero, List.set_cons_succ]
  refine held_skip (i := 8) rfl (by kernel_rfl) (by kernel_rfl) (by kernel_rfl) (fun _ _ _ h => h) rfl HS0.out ?_
  simp only [Act.put, List.setIfInBounds_toArray, List.set_cons_zero, List.set_cons_succ]
  refine held_skip (i := 9) rfl (by kernel_rfl) (by kernel_rfl) (by kernel_rfl) (fun _ _ _ h => h) rfl HS0.out ?_
  simp only [Act.put, List.setIfInBounds_toArray, List.set_cons_zero, List.set_cons_succ]
  refine held_skip (i := 10) rfl (by kernel_rfl) (by kernel_rfl) (by kernel_rfl) (fun _ _ _ h => h) rfl HS0.out ?_
  simp only [Act.put, List.setIfInBounds_toArray, List.set_cons_zero, List.set_cons_succ]
  refine held_run (i := 11) (.bool false) rfl (by kernel_rfl) (by kernel_rfl) (by kernel_rfl) (fun _ _ _ h => h) rfl (fun u _ => by go_simp) HS0.out ?_
  simp only [Act.put, List.setIfInBounds_toArray, List.set_cons_zero, List.set_cons_succ]
  refine wpAnyH_done (by kernel_rfl) ?_ _
  go_upto_region 5 with fail
  have HX2d := Lib.hid (HX2.out.ext (Ext.refl w2).drew); have HZ2d := Lib.hid (HZ2.out.ext (Ext.refl w2).drew); have HED := Lib.hid HE2.out.drew
  refine wp_region_held (S := Ext w2.drew) (by kernel_rfl) ?_
  change wpAnyH _ _ _ _ _ _ _ _ w2.drew.drew
  have HS0 : Hid (Ext w2.drew w2.drew.drew) := Lib.hid (Ext.refl _).drew
  refine held_run (i := 0) (.pointer (some ⟨w.heap.size + 1, 0, none⟩)) rfl (by kernel_rfl) (by kernel_rfl) (by kernel_rfl) (fun _ _ _ h => h) rfl (fun u _ => by go_simp) HS0.out ?_
  simp only [Act.put, List.setIfInBounds_toArray, List.set_cons_zero, List.set_cons_succ]
  refine held_cell (i := 1) (v := (.int .i64 12)) (.tmp 41) rfl rfl (by kernel_rfl) (by kernel_rfl) (by kernel_rfl) (fun _ _ _ h => h) rfl Try.underlying3 rfl rfl (fun u h => by have h9 := (HX2d.out.ext h).cells.get 0 _ rfl; simpa using h9) HS0.out ?_
  simp only [Act.put, List.setIfInBounds_toArray, List.set_cons_zero, List.set_cons_succ]
  refine held_run (i := 2) (.bool true) rfl (by kernel_rfl) (by kernel_rfl) (by kernel_rfl) (fun _ _ _ h => h) rfl (fun u _ => by go_simp) HS0.out ?_
  simp only [Act.put, List.setIfInBounds_toArray, List.set_cons_zero, List.set_cons_succ]
  refine held_run (i := 3) (.bool true) rfl (by kernel_rfl) (by kernel_rfl) (by kernel_rfl) (fun _ _ _ h => h) rfl (fun u _ => by go_simp) HS0.out ?_
  simp only [Act.put, List.setIfInBounds_toArray, List.set_cons_zero, List.set_cons_succ]
  refine held_run (i := 4) (.pointer (some ⟨w.heap.size + 1, 7, none⟩)) rfl (by kernel_rfl) (by kernel_rfl) (by kernel_rfl) (fun _ _ _ h => h) rfl (fun u _ => by go_simp) HS0.out ?_
  simp only [Act.put, List.setIfInBounds_toArray, List.set_cons_zero, List.set_cons_succ]
  refine held_cell (i := 5) (v := (.slice (some ⟨g, o, none⟩) 1 ecap)) (.tmp 45) rfl rfl (by kernel_rfl) (by kernel_rfl) (by kernel_rfl) (fun _ _ _ h => h) rfl Try.underlying25 rfl rfl (fun u h => by have h9 := (HX2d.out.ext h).cells.get 7 _ rfl; simpa using h9) HS0.out ?_
  simp only [Act.put, List.setIfInBounds_toArray, List.set_cons_zero, List.set_cons_succ]
  refine held_idxS (i := 6) 0 (.tmp 46) (.const (.int .i64 0)) rfl rfl (by kernel_rfl) (by kernel_rfl) (by kernel_rfl) (fun _ _ _ h => h) rfl Try.underlying25 size_ex rfl rfl (by decide) HS0.out ?_
  simp only [Act.put, List.setIfInBounds_toArray, List.set_cons_zero, List.set_cons_succ]
  refine held_run (i := 7) (.pointer (some ⟨g, o + 0 * 8 + 0, none⟩)) rfl (by kernel_rfl) (by kernel_rfl) (by kernel_rfl) (fun _ _ _ h => h) rfl (fun u _ => by go_simp) HS0.out ?_
  simp only [Act.put, List.setIfInBounds_toArray, List.set_cons_zero, List.set_cons_succ]
  refine held_cell (i := 8) (v := (.int .i64 kx)) (.tmp 48) rfl rfl (by kernel_rfl) (by kernel_rfl) (by kernel_rfl) (fun _ _ _ h => h) rfl Try.underlying3 rfl rfl (fun u h => by have h9 := (HXA.out u (HED.out.trans h)).get 0 _ rfl; simpa using h9) HS0.out ?_
  simp only [Act.put, List.setIfInBounds_toArray, List.set_cons_zero, List.set_cons_succ]
  refine held_run (i := 9) (.bool false) rfl (by kernel_rfl) (by kernel_rfl) (by kernel_rfl) (fun _ _ _ h => h) rfl (fun u _ => by go_simp) HS0.out ?_
  simp only [Act.put, List.setIfInBounds_toArray, List.set_cons_zero, List.set_cons_succ]
  refine held_run (i := 10) (.bool false) rfl (by kernel_rfl) (by kernel_rfl) (by kernel_rfl) (fun _ _ _ h => h) rfl (fun u _ => by go_simp) HS0.out ?_
  simp only [Act.put, List.setIfInBounds_toArray, List.set_cons_zero, List.set_cons_succ]
  refine held_run (i := 11) (.bool false) rfl (by kernel_rfl) (by kernel_rfl) (by kernel_rfl) (fun _ _ _ h => h) rfl (fun u _ => by go_simp) HS0.out ?_
  simp only [Act.put, List.setIfInBounds_toArray, List.set_cons_zero, List.set_cons_succ]
  refine held_skip (i := 12) rfl (by kernel_rfl) (by kernel_rfl) (by kernel_rfl) (fun _ _ _ h => h) rfl HS0.out ?_
  simp only [Act.put, List.setIfInBounds_toArray, List.set_cons_zero, List.set_cons_succ]
  refine held_skip (i := 13) rfl (by kernel_rfl) (by kernel_rfl) (by kernel_rfl) (fun _ _ _ h => h) rfl HS0.out ?_
  simp only [Act.put, List.setIfInBounds_toArray, List.set_cons_zero, List.set_cons_succ]
  refine held_skip (i := 14) rfl (by kernel_rfl) (by kernel_rfl) (by kernel_rfl) (fun _ _ _ h => h) rfl HS0.out ?_
  simp only [Act.put, List.setIfInBounds_toArray, List.set_cons_zero, List.set_cons_succ]
  refine held_skip (i := 15) rfl (by kernel_rfl) (by kernel_rfl) (by kernel_rfl) (fun _ _ _ h => h) rfl HS0.out ?_
  simp only [Act.put, List.setIfInBounds_toArray, List.set_cons_zero, List.set_cons_succ]
  refine held_skip (i := 16) rfl (by kernel_rfl) (by kernel_rfl) (by kernel_rfl) (fun _ _ _ h => h) rfl HS0.out ?_
  simp only [Act.put, List.setIfInBounds_toArray, List.set_cons_zero, List.set_cons_succ]
  refine held_skip (i := 17) rfl (by kernel_rfl) (by kernel_rfl) (by kernel_rfl) (fun _ _ _ h => h) rfl HS0.out ?_
  simp only [Act.put, List.setIfInBounds_toArray, List.set_cons_zero, List.set_cons_succ]
  refine held_skip (i := 18) rfl (by kernel_rfl) (by kernel_rfl) (by kernel_rfl) (fun _ _ _ h => h) rfl HS0.out ?_
  simp only [Act.put, List.setIfInBounds_toArray, List.set_cons_zero, List.set_cons_succ]
  refine held_skip (i := 19) rfl (by kernel_rfl) (by kernel_rfl) (by kernel_rfl) (fun _ _ _ h => h) rfl HS0.out ?_
  simp only [Act.put, List.setIfInBounds_toArray, List.set_cons_zero, List.set_cons_succ]
  refine held_skip (i := 20) rfl (by kernel_rfl) (by kernel_rfl) (by kernel_rfl) (fun _ _ _ h => h) rfl HS0.out ?_
  simp only [Act.put, List.setIfInBounds_toArray, List.set_cons_zero, List.set_cons_succ]
  refine held_skip (i := 21) rfl (by kernel_rfl) (by kernel_rfl) (by kernel_rfl) (fun _ _ _ h => h) rfl HS0.out ?_
  simp only [Act.put, List.setIfInBounds_toArray, List.set_cons_zero, List.set_cons_succ]
  refine held_run (i := 22) (.bool false) rfl (by kernel_rfl) (by kernel_rfl) (by kernel_rfl) (fun _ _ _ h => h) rfl (fun u _ => by go_simp) HS0.out ?_
  simp only [Act.put, List.setIfInBounds_toArray, List.set_cons_zero, List.set_cons_succ]
  refine wpAnyH_done (by kernel_rfl) ?_ _
  obtain ⟨x0, -⟩ := (HX2d.out.ext (Ext.refl _).drew).cells
  try simp only [Nat.zero_add] at x0
  go_wp2_with fail
  go_ret
  exact ⟨rfl, HED.out.drew⟩
set_option maxRecDepth 100000 in
set_option maxHeartbeats 16000000 in
theorem mr_not_yes (zr rel : Int) (cols : List Rng) (zs : Value) (k r c : Int) (v : Val) (l : List Ex) (es : Value) (w : World) (hz : RngsIn w zs cols) (he : Ex.In w (.mk k r c v l) es) (rx cx : Int) (vx : Val) (a : Ex) (hl : l = [.mk 13 rx cx vx [a]]) (hf : 0 ≤ (Ex.mk k r c v l).count 1 400) (hk : k = 12) (hac : 0 ≤ a.col) :
    Calls Try.prog 48 #[.agg #[.int .i64 zr, zs], .int .i64 rel, .agg (exCells k r c v es).toArray] w fun ev w' => ev = .returned (.bool (match colE cols rel a with | some g => decide (g.nulls < zr) | none => true)) ∧ Ext w w' := by
  subst hl hk
  unfold exCells
  obtain ⟨ZA, zcap, rfl, -⟩ := hz.val
  have HZ : Hid (∀ u, Ext w u → RngsIn u (.slice ZA cols.length zcap) cols) := Lib.hid fun u h => hz.ext h
  obtain ⟨hlm, EA, ecap, rfl, hkr⟩ := he.kids
  have HX : Hid (∀ u, Ext w u → Ex.In u (.mk 12 r c v [Ex.mk 13 rx cx vx [a]]) (.slice EA [Ex.mk 13 rx cx vx [a]].length ecap)) := Lib.hid fun u h => Ex.In.ext h _ _ he
  have HKI : Hid (ExsIn w (.slice EA [Ex.mk 13 rx cx vx [a]].length ecap) [Ex.mk 13 rx cx vx [a]]) := Lib.hid he.kids
  clear hz he hlm hkr
  have HB0 := Lib.hid ((BoxAt.new (w := w) (vs := [.int .i64 zr, .slice ZA cols.length zcap]) (t := 88) rfl rfl).ext ((Ext.refl (w.alloc (.cells [.int .i64 zr, .slice ZA cols.length zcap].toArray 88))).alloc (.cells [.int .i64 12, .int .i64 r, .int .i64 c, .int .i64 v.kind, .int .i64 v.int, .float .f64 v.flt, .string v.text, .slice EA [Ex.mk 13 rx cx vx [a]].length ecap].toArray 27)))
  have HB1 := Lib.hid (BoxAt.new (w := (w.alloc (.cells [.int .i64 zr, .slice ZA cols.length zcap].toArray 88))) (g := w.heap.size + 1) (vs := [.int .i64 12, .int .i64 r, .int .i64 c, .int .i64 v.kind, .int .i64 v.int, .float .f64 v.flt, .string v.text, .slice EA [Ex.mk 13 rx cx vx [a]].length ecap]) (t := 27) (by simp) rfl)
  have HE := Lib.hid (((Ext.refl w).alloc (.cells [.int .i64 zr, .slice ZA cols.length zcap].toArray 88)).alloc (.cells [.int .i64 12, .int .i64 r, .int .i64 c, .int .i64 v.kind, .int .i64 v.int, .float .f64 v.flt, .string v.text, .slice EA [Ex.mk 13 rx cx vx [a]].length ecap].toArray 27))
  have HF : Hid (∀ u, Ext w u → Calls Try.prog 87 #[.agg #[.int .i64 12, .int .i64 r, .int .i64 c, .int .i64 v.kind, .int .i64 v.int, .float .f64 v.flt, .string v.text, .slice EA [Ex.mk 13 rx cx vx [a]].length ecap]] u fun ev w' => ev = .returned (.bool (decide (0 ≤ (Ex.mk 12 r c v [Ex.mk 13 rx cx vx [a]]).count 1 400))) ∧ Ext u w') := Lib.hid fun u h => rformed_of (.mk 12 r c v [Ex.mk 13 rx cx vx [a]]) _ u (HX.out u h)
  rw [decide_eq_true hf] at HF
  clear hf
  simp only [List.length_cons, List.length_nil, Nat.zero_add, Nat.reduceAdd] at *
  obtain ⟨g, o, s1, h1, -, hat, hix, hg⟩ := HKI.out.get 0 (by simp)
  subst h1
  obtain ⟨-, X1, xc, rfl, -⟩ := hix.mk_inv.2.2.2.2
  obtain ⟨g2, o2, s2, h2, -, hat2, hia, hg2⟩ := hix.kids.get 0 (by simp)
  subst h2
  obtain ⟨-, A1, c1, rfl, -⟩ := hia.mk_inv.2.2.2.2
  have HXA : Hid (∀ u, Ext w u → At u g (o + 0 * 8) [.int .i64 13, .int .i64 rx, .int .i64 cx, .int .i64 vx.kind, .int .i64 vx.int, .float .f64 vx.flt, .string vx.text, .slice (some ⟨g2, o2, none⟩) 1 xc]) := Lib.hid fun u h => hat.ext h hg
  have HA1 : Hid (∀ u, Ext w u → At u g2 (o2 + 0 * 8) [.int .i64 a.kind, .int .i64 a.rel, .int .i64 a.col, .int .i64 a.const.kind, .int .i64 a.const.int, .float .f64 a.const.flt, .string a.const.text, .slice A1 a.kids.length c1]) := Lib.hid fun u h => hat2.ext h hg2
  have HCC : Hid (∀ u, Ext w u → Calls Try.prog 106 #[.agg #[.int .i64 zr, .slice ZA cols.length zcap], .int .i64 rel, .agg #[.int .i64 a.kind, .int .i64 a.rel, .int .i64 a.col, .int .i64 a.const.kind, .int .i64 a.const.int, .float .f64 a.const.flt, .string a.const.text, .slice A1 a.kids.length c1]] u fun ev w' => ev = .returned (.bool (colE cols rel a).isSome) ∧ Ext u w') := Lib.hid fun u h => known_of zr rel cols _ a _ u (HZ.out u h) (Ex.In.ext h _ _ hia) hac
  clear hat hat2 hia hix HKI HX
  cases hc : colE cols rel a with
  | none =>
    rw [hc] at HCC
    clear hc HZ hac
    go_enter Try.func48, Try.ntmps48
    go_upto_region 3 with (first
      | (refine wpList_ldA (.tmp 15) (vs := [.int .i64 12, .int .i64 r, .int .i64 c, .int .i64 v.kind, .int .i64 v.int, .float .f64 v.flt, .string v.text, .slice (some ⟨g, o, none⟩) 1 ecap]) rfl rfl agg_ex rfl (HB1.out.cells) ?_)
      | (go_at_call 87; refine (HF.out _ HE.out).mono ?_; rintro ev w2 ⟨rfl, hb2⟩; have HE2 := Lib.hid (HE.out.trans hb2); have HZ2 := Lib.hid (HB0.out.ext hb2); have HX2 := Lib.hid (HB1.out.ext hb2); clear hb2))
    refine wp_region_held (S := Ext w2) (by kernel_rfl) ?_
    change wpAnyH _ _ _ _ _ _ _ _ w2.drew
    have HS0 : Hid (Ext w2 w2.drew) := Lib.hid (Ext.refl _).drew
    refine held_run (i := 0) (.pointer (some ⟨w.heap.size + 1, 0, none⟩)) rfl (by kernel_rfl) (by kernel_rfl) (by kernel_rfl) (fun _ _ _ h => h) rfl (fun u _ => by go_simp) HS0.out ?_
    simp only [Act.put, List.setIfInBounds_toArray, List.set_cons_zero, List.set_cons_succ]
    refine held_cell (i := 1) (v := (.int .i64 12)) (.tmp 18) rfl rfl (by kernel_rfl) (by kernel_rfl) (by kernel_rfl) (fun _ _ _ h => h) rfl Try.underlying3 rfl rfl (fun u h => by have h9 := (HX2.out.ext h).cells.get 0 _ rfl; simpa using h9) HS0.out ?_
    simp only [Act.put, List.setIfInBounds_toArray, List.set_cons_zero, List.set_cons_succ]
    refine held_run (i := 2) (.bool false) rfl (by kernel_rfl) (by kernel_rfl) (by kernel_rfl) (fun _ _ _ h => h) rfl (fun u _ => by go_simp) HS0.out ?_
    simp only [Act.put, List.setIfInBounds_toArray, List.set_cons_zero, List.set_cons_succ]
    refine held_run (i := 3) (.bool false) rfl (by kernel_rfl) (by kernel_rfl) (by kernel_rfl) (fun _ _ _ h => h) rfl (fun u _ => by go_simp) HS0.out ?_
    simp only [Act.put, List.setIfInBounds_toArray, List.set_cons_zero, List.set_cons_succ]
    refine held_skip (i := 4) rfl (by kernel_rfl) (by kernel_rfl) (by kernel_rfl) (fun _ _ _ h => h) rfl HS0.out ?_
    simp only [Act.put, List.setIfInBounds_toArray, List.set_cons_zero, List.set_cons_succ]
    refine held_skip (i := 5) rfl (by kernel_rfl) (by kernel_rfl) (by kernel_rfl) (fun _ _ _ h => h) rfl HS0.out ?_
    simp only [Act.put, List.setIfInBounds_toArray, List.set_cons_zero, List.set_cons_succ]
    refine held_skip (i := 6) rfl (by kernel_rfl) (by kernel_rfl) (by kernel_rfl) (fun _ _ _ h => h) rfl HS0.out ?_
    simp only [Act.put, List.setIfInBounds_toArray, List.set_cons_zero, List.set_cons_succ]
    refine held_skip (i := 7) rfl (by kernel_rfl) (by kernel_rfl) (by kernel_rfl) (fun _ _ _ h => h) rfl HS0.out ?_
    simp only [Act.put, List.setIfInBounds_toArray, List.set_cons_zero, List.set_cons_succ]
    refine held_skip (i := 8) rfl (by kernel_rfl) (by kernel_rfl) (by kernel_rfl) (fun _ _ _ h => h) rfl HS0.out ?_
    simp only [Act.put, List.setIfInBounds_toArray, List.set_cons_zero, List.set_cons_succ]
    refine held_skip (i := 9) rfl (by kernel_rfl) (by kernel_rfl) (by kernel_rfl) (fun _ _ _ h => h) rfl HS0.out ?_
    simp only [Act.put, List.setIfInBounds_toArray, List.set_cons_zero, List.set_cons_succ]
    refine held_skip (i := 10) rfl (by kernel_rfl) (by kernel_rfl) (by kernel_rfl) (fun _ _ _ h => h) rfl HS0.out ?_
    simp only [Act.put, List.setIfInBounds_toArray, List.set_cons_zero, List.set_cons_succ]
    refine held_run (i := 11) (.bool false) rfl (by kernel_rfl) (by kernel_rfl) (by kernel_rfl) (fun _ _ _ h => h) rfl (fun u _ => by go_simp) HS0.out ?_
    simp only [Act.put, List.setIfInBounds_toArray, List.set_cons_zero, List.set_cons_succ]
    refine wpAnyH_done (by kernel_rfl) ?_ _
    go_upto_region 5 with fail
    have HX2d := Lib.hid (HX2.out.ext (Ext.refl w2).drew); have HZ2d := Lib.hid (HZ2.out.ext (Ext.refl w2).drew); have HED := Lib.hid HE2.out.drew
    refine wp_region_held (S := Ext w2.drew) (by kernel_rfl) ?_
    change wpAnyH _ _ _ _ _ _ _ _ w2.drew.drew
    have HS0 : Hid (Ext w2.drew w2.drew.drew) := Lib.hid (Ext.refl _).drew
    refine held_run (i := 0) (.pointer (some ⟨w.heap.size + 1, 0, none⟩)) rfl (by kernel_rfl) (by kernel_rfl) (by kernel_rfl) (fun _ _ _ h => h) rfl (fun u _ => by go_simp) HS0.out ?_
    simp only [Act.put, List.setIfInBounds_toArray, List.set_cons_zero, List.set_cons_succ]
    refine held_cell (i := 1) (v := (.int .i64 12)) (.tmp 41) rfl rfl (by kernel_rfl) (by kernel_rfl) (by kernel_rfl) (fun _ _ _ h => h) rfl Try.underlying3 rfl rfl (fun u h => by have h9 := (HX2d.out.ext h).cells.get 0 _ rfl; simpa using h9) HS0.out ?_
    simp only [Act.put, List.setIfInBounds_toArray, List.set_cons_zero, List.set_cons_succ]
    refine held_run (i := 2) (.bool true) rfl (by kernel_rfl) (by kernel_rfl) (by kernel_rfl) (fun _ _ _ h => h) rfl (fun u _ => by go_simp) HS0.out ?_
    simp only [Act.put, List.setIfInBounds_toArray, List.set_cons_zero, List.set_cons_succ]
    refine held_run (i := 3) (.bool true) rfl (by kernel_rfl) (by kernel_rfl) (by kernel_rfl) (fun _ _ _ h => h) rfl (fun u _ => by go_simp) HS0.out ?_
    simp only [Act.put, List.setIfInBounds_toArray, List.set_cons_zero, List.set_cons_succ]
    refine held_run (i := 4) (.pointer (some ⟨w.heap.size + 1, 7, none⟩)) rfl (by kernel_rfl) (by kernel_rfl) (by kernel_rfl) (fun _ _ _ h => h) rfl (fun u _ => by go_simp) HS0.out ?_
    simp only [Act.put, List.setIfInBounds_toArray, List.set_cons_zero, List.set_cons_succ]
    refine held_cell (i := 5) (v := (.slice (some ⟨g, o, none⟩) 1 ecap)) (.tmp 45) rfl rfl (by kernel_rfl) (by kernel_rfl) (by kernel_rfl) (fun _ _ _ h => h) rfl Try.underlying25 rfl rfl (fun u h => by have h9 := (HX2d.out.ext h).cells.get 7 _ rfl; simpa using h9) HS0.out ?_
    simp only [Act.put, List.setIfInBounds_toArray, List.set_cons_zero, List.set_cons_succ]
    refine held_idxS (i := 6) 0 (.tmp 46) (.const (.int .i64 0)) rfl rfl (by kernel_rfl) (by kernel_rfl) (by kernel_rfl) (fun _ _ _ h => h) rfl Try.underlying25 size_ex rfl rfl (by decide) HS0.out ?_
    simp only [Act.put, List.setIfInBounds_toArray, List.set_cons_zero, List.set_cons_succ]
    refine held_run (i := 7) (.pointer (some ⟨g, o + 0 * 8 + 0, none⟩)) rfl (by kernel_rfl) (by kernel_rfl) (by kernel_rfl) (fun _ _ _ h => h) rfl (fun u _ => by go_simp) HS0.out ?_
    simp only [Act.put, List.setIfInBounds_toArray, List.set_cons_zero, List.set_cons_succ]
    refine held_cell (i := 8) (v := (.int .i64 13)) (.tmp 48) rfl rfl (by kernel_rfl) (by kernel_rfl) (by kernel_rfl) (fun _ _ _ h => h) rfl Try.underlying3 rfl rfl (fun u h => by have h9 := (HXA.out u (HED.out.trans h)).get 0 _ rfl; simpa using h9) HS0.out ?_
    simp only [Act.put, List.setIfInBounds_toArray, List.set_cons_zero, List.set_cons_succ]
    refine held_run (i := 9) (.bool true) rfl (by kernel_rfl) (by kernel_rfl) (by kernel_rfl) (fun _ _ _ h => h) rfl (fun u _ => by go_simp) HS0.out ?_
    simp only [Act.put, List.setIfInBounds_toArray, List.set_cons_zero, List.set_cons_succ]
    refine held_run (i := 10) (.bool true) rfl (by kernel_rfl) (by kernel_rfl) (by kernel_rfl) (fun _ _ _ h => h) rfl (fun u _ => by go_simp) HS0.out ?_
    simp only [Act.put, List.setIfInBounds_toArray, List.set_cons_zero, List.set_cons_succ]
    refine held_run (i := 11) (.bool true) rfl (by kernel_rfl) (by kernel_rfl) (by kernel_rfl) (fun _ _ _ h => h) rfl (fun u _ => by go_simp) HS0.out ?_
    simp only [Act.put, List.setIfInBounds_toArray, List.set_cons_zero, List.set_cons_succ]
    refine held_loadA (i := 12) (vs := [.int .i64 zr, .slice ZA cols.length zcap]) (.tmp 3) rfl rfl (by kernel_rfl) (by kernel_rfl) (by kernel_rfl) (fun _ _ _ h => h) rfl agg_zoneR rfl (fun u h => (HZ2d.out.ext h).cells) HS0.out ?_
    simp only [Act.put, List.setIfInBounds_toArray, List.set_cons_zero, List.set_cons_succ]
    refine held_run (i := 13) (.int .i64 rel) rfl (by kernel_rfl) (by kernel_rfl) (by kernel_rfl) (fun _ _ _ h => h) rfl (fun u _ => by go_simp) HS0.out ?_
    simp only [Act.put, List.setIfInBounds_toArray, List.set_cons_zero, List.set_cons_succ]
    refine held_run (i := 14) (.pointer (some ⟨w.heap.size + 1, 7, none⟩)) rfl (by kernel_rfl) (by kernel_rfl) (by kernel_rfl) (fun _ _ _ h => h) rfl (fun u _ => by go_simp) HS0.out ?_
    simp only [Act.put, List.setIfInBounds_toArray, List.set_cons_zero, List.set_cons_succ]
    refine held_cell (i := 15) (v := (.slice (some ⟨g, o, none⟩) 1 ecap)) (.tmp 55) rfl rfl (by kernel_rfl) (by kernel_rfl) (by kernel_rfl) (fun _ _ _ h => h) rfl Try.underlying25 rfl rfl (fun u h => by have h9 := (HX2d.out.ext h).cells.get 7 _ rfl; simpa using h9) HS0.out ?_
    simp only [Act.put, List.setIfInBounds_toArray, List.set_cons_zero, List.set_cons_succ]
    refine held_idxS (i := 16) 0 (.tmp 56) (.const (.int .i64 0)) rfl rfl (by kernel_rfl) (by kernel_rfl) (by kernel_rfl) (fun _ _ _ h => h) rfl Try.underlying25 size_ex rfl rfl (by decide) HS0.out ?_
    simp only [Act.put, List.setIfInBounds_toArray, List.set_cons_zero, List.set_cons_succ]
    refine held_run (i := 17) (.pointer (some ⟨g, o + 0 * 8 + 7, none⟩)) rfl (by kernel_rfl) (by kernel_rfl) (by kernel_rfl) (fun _ _ _ h => h) rfl (fun u _ => by go_simp) HS0.out ?_
    simp only [Act.put, List.setIfInBounds_toArray, List.set_cons_zero, List.set_cons_succ]
    refine held_cell (i := 18) (v := (.slice (some ⟨g2, o2, none⟩) 1 xc)) (.tmp 58) rfl rfl (by kernel_rfl) (by kernel_rfl) (by kernel_rfl) (fun _ _ _ h => h) rfl Try.underlying25 rfl rfl (fun u h => by have h9 := (HXA.out u (HED.out.trans h)).get 7 _ rfl; simpa using h9) HS0.out ?_
    simp only [Act.put, List.setIfInBounds_toArray, List.set_cons_zero, List.set_cons_succ]
    refine held_idxS (i := 19) 0 (.tmp 59) (.const (.int .i64 0)) rfl rfl (by kernel_rfl) (by kernel_rfl) (by kernel_rfl) (fun _ _ _ h => h) rfl Try.underlying25 size_ex rfl rfl (by decide) HS0.out ?_
    simp only [Act.put, List.setIfInBounds_toArray, List.set_cons_zero, List.set_cons_succ]
    refine held_loadA (i := 20) (vs := [.int .i64 a.kind, .int .i64 a.rel, .int .i64 a.col, .int .i64 a.const.kind, .int .i64 a.const.int, .float .f64 a.const.flt, .string a.const.text, .slice A1 a.kids.length c1]) (.tmp 60) rfl rfl (by kernel_rfl) (by kernel_rfl) (by kernel_rfl) (fun _ _ _ h => h) rfl agg_ex rfl (fun u h => HA1.out u (HED.out.trans h)) HS0.out ?_
    simp only [Act.put, List.setIfInBounds_toArray, List.set_cons_zero, List.set_cons_succ]
    refine held_do (i := 21) rfl (by kernel_rfl) rfl fun K hK => ?_
    refine wp_callF (fun x w' => x = .bool false ∧ Ext w2.drew.drew w') (fun u => by go_simp) ((HCC.out w2.drew.drew (HED.out.trans HS0.out)).mono fun e w' h => ⟨_, h.1, rfl, h.2⟩) ?_
    rintro _ w5 ⟨rfl, he5⟩
    have HS5 : Hid (Ext w2.drew w5) := Lib.hid (HS0.out.trans he5)
    refine hK _ _ HS5.out ?_
    try simp only [Act.put, List.setIfInBounds_toArray, List.set_cons_zero, List.set_cons_succ]
    clear hK K he5
    refine held_run (i := 22) (.bool false) rfl (by kernel_rfl) (by kernel_rfl) (by kernel_rfl) (fun _ _ _ h => h) rfl (fun u _ => by go_simp) HS5.out ?_
    simp only [Act.put, List.setIfInBounds_toArray, List.set_cons_zero, List.set_cons_succ]
    refine wpAnyH_done (by kernel_rfl) ?_ _
    obtain ⟨x0, -⟩ := (HX2d.out.ext HS5.out).cells
    try simp only [Nat.zero_add] at x0
    go_wp2_with fail
    go_ret
    exact ⟨rfl, HED.out.trans HS5.out⟩
  | some q =>
    rw [hc] at HCC
    obtain ⟨n, hn, hq⟩ : ∃ n : Nat, a.col = (n : Int) ∧ cols[n]? = some q := by
      unfold colE at hc
      split at hc
      · split at hc
        · exact ⟨a.col.toNat, by omega, hc⟩
        · cases hc
      · cases hc
    obtain ⟨hn1, hn2⟩ := List.getElem?_eq_some_iff.1 hq
    obtain ⟨gz, oz, rfl, hqa, hqg⟩ := (HZ.out w (Ext.refl _)).at_ n hn1
    have HQA : Hid (∀ u, Ext w u → At u gz (oz + n * 10) q.cells) := Lib.hid fun u h => by have h9 := hqa.ext h hqg; rw [hn2] at h9; exact h9
    clear hc HZ hac hqa hqg hn2 hq
    unfold Rng.cells at HQA
    have HA1n : Hid (∀ u, Ext w u → At u g2 (o2 + 0 * 8) [.int .i64 a.kind, .int .i64 a.rel, .int .i64 (n : Int), .int .i64 a.const.kind, .int .i64 a.const.int, .float .f64 a.const.flt, .string a.const.text, .slice A1 a.kids.length c1]) := Lib.hid (by rw [← hn]; exact HA1.out)
    have HCCn : Hid (∀ u, Ext w u → Calls Try.prog 106 #[.agg #[.int .i64 zr, .slice (some ⟨gz, oz, none⟩) cols.length zcap], .int .i64 rel, .agg #[.int .i64 a.kind, .int .i64 a.rel, .int .i64 (n : Int), .int .i64 a.const.kind, .int .i64 a.const.int, .float .f64 a.const.flt, .string a.const.text, .slice A1 a.kids.length c1]] u fun ev w' => ev = .returned (.bool (Option.isSome (some q))) ∧ Ext u w') := Lib.hid (by rw [← hn]; exact HCC.out)
    clear HA1 HCC hn
    have HA1 := HA1n; have HCC := HCCn
    clear HA1n HCCn
    go_enter Try.func48, Try.ntmps48
    go_upto_region 3 with (first
      | (refine wpList_ldA (.tmp 15) (vs := [.int .i64 12, .int .i64 r, .int .i64 c, .int .i64 v.kind, .int .i64 v.int, .float .f64 v.flt, .string v.text, .slice (some ⟨g, o, none⟩) 1 ecap]) rfl rfl agg_ex rfl (HB1.out.cells) ?_)
      | (go_at_call 87; refine (HF.out _ HE.out).mono ?_; rintro ev w2 ⟨rfl, hb2⟩; have HE2 := Lib.hid (HE.out.trans hb2); have HZ2 := Lib.hid (HB0.out.ext hb2); have HX2 := Lib.hid (HB1.out.ext hb2); clear hb2))
    refine wp_region_held (S := Ext w2) (by kernel_rfl) ?_
    change wpAnyH _ _ _ _ _ _ _ _ w2.drew
    have HS0 : Hid (Ext w2 w2.drew) := Lib.hid (Ext.refl _).drew
    refine held_run (i := 0) (.pointer (some ⟨w.heap.size + 1, 0, none⟩)) rfl (by kernel_rfl) (by kernel_rfl) (by kernel_rfl) (fun _ _ _ h => h) rfl (fun u _ => by go_simp) HS0.out ?_
    simp only [Act.put, List.setIfInBounds_toArray, List.set_cons_zero, List.set_cons_succ]
    refine held_cell (i := 1) (v := (.int .i64 12)) (.tmp 18) rfl rfl (by kernel_rfl) (by kernel_rfl) (by kernel_rfl) (fun _ _ _ h => h) rfl Try.underlying3 rfl rfl (fun u h => by have h9 := (HX2.out.ext h).cells.get 0 _ rfl; simpa using h9) HS0.out ?_
    simp only [Act.put, List.setIfInBounds_toArray, List.set_cons_zero, List.set_cons_succ]
    refine held_run (i := 2) (.bool false) rfl (by kernel_rfl) (by kernel_rfl) (by kernel_rfl) (fun _ _ _ h => h) rfl (fun u _ => by go_simp) HS0.out ?_
    simp only [Act.put, List.setIfInBounds_toArray, List.set_cons_zero, List.set_cons_succ]
    refine held_run (i := 3) (.bool false) rfl (by kernel_rfl) (by kernel_rfl) (by kernel_rfl) (fun _ _ _ h => h) rfl (fun u _ => by go_simp) HS0.out ?_
    simp only [Act.put, List.setIfInBounds_toArray, List.set_cons_zero, List.set_cons_succ]
    refine held_skip (i := 4) rfl (by kernel_rfl) (by kernel_rfl) (by kernel_rfl) (fun _ _ _ h => h) rfl HS0.out ?_
    simp only [Act.put, List.setIfInBounds_toArray, List.set_cons_zero, List.set_cons_succ]
    refine held_skip (i := 5) rfl (by kernel_rfl) (by kernel_rfl) (by kernel_rfl) (fun _ _ _ h => h) rfl HS0.out ?_
    simp only [Act.put, List.setIfInBounds_toArray, List.set_cons_zero, List.set_cons_succ]
    refine held_skip (i := 6) rfl (by kernel_rfl) (by kernel_rfl) (by kernel_rfl) (fun _ _ _ h => h) rfl HS0.out ?_
    simp only [Act.put, List.setIfInBounds_toArray, List.set_cons_zero, List.set_cons_succ]
    refine held_skip (i := 7) rfl (by kernel_rfl) (by kernel_rfl) (by kernel_rfl) (fun _ _ _ h => h) rfl HS0.out ?_
    simp only [Act.put, List.setIfInBounds_toArray, List.set_cons_zero, List.set_cons_succ]
    refine held_skip (i := 8) rfl (by kernel_rfl) (by kernel_rfl) (by kernel_rfl) (fun _ _ _ h => h) rfl HS0.out ?_
    simp only [Act.put, List.setIfInBounds_toArray, List.set_cons_zero, List.set_cons_succ]
    refine held_skip (i := 9) rfl (by kernel_rfl) (by kernel_rfl) (by kernel_rfl) (fun _ _ _ h => h) rfl HS0.out ?_
    simp only [Act.put, List.setIfInBounds_toArray, List.set_cons_zero, List.set_cons_succ]
    refine held_skip (i := 10) rfl (by kernel_rfl) (by kernel_rfl) (by kernel_rfl) (fun _ _ _ h => h) rfl HS0.out ?_
    simp only [Act.put, List.setIfInBounds_toArray, List.set_cons_zero, List.set_cons_succ]
    refine held_run (i := 11) (.bool false) rfl (by kernel_rfl) (by kernel_rfl) (by kernel_rfl) (fun _ _ _ h => h) rfl (fun u _ => by go_simp) HS0.out ?_
    simp only [Act.put, List.setIfInBounds_toArray, List.set_cons_zero, List.set_cons_succ]
    refine wpAnyH_done (by kernel_rfl) ?_ _
    go_upto_region 5 with fail
    have HX2d := Lib.hid (HX2.out.ext (Ext.refl w2).drew); have HZ2d := Lib.hid (HZ2.out.ext (Ext.refl w2).drew); have HED := Lib.hid HE2.out.drew
    refine wp_region_held (S := Ext w2.drew) (by kernel_rfl) ?_
    change wpAnyH _ _ _ _ _ _ _ _ w2.drew.drew
    have HS0 : Hid (Ext w2.drew w2.drew.drew) := Lib.hid (Ext.refl _).drew
    refine held_run (i := 0) (.pointer (some ⟨w.heap.size + 1, 0, none⟩)) rfl (by kernel_rfl) (by kernel_rfl) (by kernel_rfl) (fun _ _ _ h => h) rfl (fun u _ => by go_simp) HS0.out ?_
    simp only [Act.put, List.setIfInBounds_toArray, List.set_cons_zero, List.set_cons_succ]
    refine held_cell (i := 1) (v := (.int .i64 12)) (.tmp 41) rfl rfl (by kernel_rfl) (by kernel_rfl) (by kernel_rfl) (fun _ _ _ h => h) rfl Try.underlying3 rfl rfl (fun u h => by have h9 := (HX2d.out.ext h).cells.get 0 _ rfl; simpa using h9) HS0.out ?_
    simp only [Act.put, List.setIfInBounds_toArray, List.set_cons_zero, List.set_cons_succ]
    refine held_run (i := 2) (.bool true) rfl (by kernel_rfl) (by kernel_rfl) (by kernel_rfl) (fun _ _ _ h => h) rfl (fun u _ => by go_simp) HS0.out ?_
    simp only [Act.put, List.setIfInBounds_toArray, List.set_cons_zero, List.set_cons_succ]
    refine held_run (i := 3) (.bool true) rfl (by kernel_rfl) (by kernel_rfl) (by kernel_rfl) (fun _ _ _ h => h) rfl (fun u _ => by go_simp) HS0.out ?_
    simp only [Act.put, List.setIfInBounds_toArray, List.set_cons_zero, List.set_cons_succ]
    refine held_run (i := 4) (.pointer (some ⟨w.heap.size + 1, 7, none⟩)) rfl (by kernel_rfl) (by kernel_rfl) (by kernel_rfl) (fun _ _ _ h => h) rfl (fun u _ => by go_simp) HS0.out ?_
    simp only [Act.put, List.setIfInBounds_toArray, List.set_cons_zero, List.set_cons_succ]
    refine held_cell (i := 5) (v := (.slice (some ⟨g, o, none⟩) 1 ecap)) (.tmp 45) rfl rfl (by kernel_rfl) (by kernel_rfl) (by kernel_rfl) (fun _ _ _ h => h) rfl Try.underlying25 rfl rfl (fun u h => by have h9 := (HX2d.out.ext h).cells.get 7 _ rfl; simpa using h9) HS0.out ?_
    simp only [Act.put, List.setIfInBounds_toArray, List.set_cons_zero, List.set_cons_succ]
    refine held_idxS (i := 6) 0 (.tmp 46) (.const (.int .i64 0)) rfl rfl (by kernel_rfl) (by kernel_rfl) (by kernel_rfl) (fun _ _ _ h => h) rfl Try.underlying25 size_ex rfl rfl (by decide) HS0.out ?_
    simp only [Act.put, List.setIfInBounds_toArray, List.set_cons_zero, List.set_cons_succ]
    refine held_run (i := 7) (.pointer (some ⟨g, o + 0 * 8 + 0, none⟩)) rfl (by kernel_rfl) (by kernel_rfl) (by kernel_rfl) (fun _ _ _ h => h) rfl (fun u _ => by go_simp) HS0.out ?_
    simp only [Act.put, List.setIfInBounds_toArray, List.set_cons_zero, List.set_cons_succ]
    refine held_cell (i := 8) (v := (.int .i64 13)) (.tmp 48) rfl rfl (by kernel_rfl) (by kernel_rfl) (by kernel_rfl) (fun _ _ _ h => h) rfl Try.underlying3 rfl rfl (fun u h => by have h9 := (HXA.out u (HED.out.trans h)).get 0 _ rfl; simpa using h9) HS0.out ?_
    simp only [Act.put, List.setIfInBounds_toArray, List.set_cons_zero, List.set_cons_succ]
    refine held_run (i := 9) (.bool true) rfl (by kernel_rfl) (by kernel_rfl) (by kernel_rfl) (fun _ _ _ h => h) rfl (fun u _ => by go_simp) HS0.out ?_
    simp only [Act.put, List.setIfInBounds_toArray, List.set_cons_zero, List.set_cons_succ]
    refine held_run (i := 10) (.bool true) rfl (by kernel_rfl) (by kernel_rfl) (by kernel_rfl) (fun _ _ _ h => h) rfl (fun u _ => by go_simp) HS0.out ?_
    simp only [Act.put, List.setIfInBounds_toArray, List.set_cons_zero, List.set_cons_succ]
    refine held_run (i := 11) (.bool true) rfl (by kernel_rfl) (by kernel_rfl) (by kernel_rfl) (fun _ _ _ h => h) rfl (fun u _ => by go_simp) HS0.out ?_
    simp only [Act.put, List.setIfInBounds_toArray, List.set_cons_zero, List.set_cons_succ]
    refine held_loadA (i := 12) (vs := [.int .i64 zr, .slice (some ⟨gz, oz, none⟩) cols.length zcap]) (.tmp 3) rfl rfl (by kernel_rfl) (by kernel_rfl) (by kernel_rfl) (fun _ _ _ h => h) rfl agg_zoneR rfl (fun u h => (HZ2d.out.ext h).cells) HS0.out ?_
    simp only [Act.put, List.setIfInBounds_toArray, List.set_cons_zero, List.set_cons_succ]
    refine held_run (i := 13) (.int .i64 rel) rfl (by kernel_rfl) (by kernel_rfl) (by kernel_rfl) (fun _ _ _ h => h) rfl (fun u _ => by go_simp) HS0.out ?_
    simp only [Act.put, List.setIfInBounds_toArray, List.set_cons_zero, List.set_cons_succ]
    refine held_run (i := 14) (.pointer (some ⟨w.heap.size + 1, 7, none⟩)) rfl (by kernel_rfl) (by kernel_rfl) (by kernel_rfl) (fun _ _ _ h => h) rfl (fun u _ => by go_simp) HS0.out ?_
    simp only [Act.put, List.setIfInBounds_toArray, List.set_cons_zero, List.set_cons_succ]
    refine held_cell (i := 15) (v := (.slice (some ⟨g, o, none⟩) 1 ecap)) (.tmp 55) rfl rfl (by kernel_rfl) (by kernel_rfl) (by kernel_rfl) (fun _ _ _ h => h) rfl Try.underlying25 rfl rfl (fun u h => by have h9 := (HX2d.out.ext h).cells.get 7 _ rfl; simpa using h9) HS0.out ?_
    simp only [Act.put, List.setIfInBounds_toArray, List.set_cons_zero, List.set_cons_succ]
    refine held_idxS (i := 16) 0 (.tmp 56) (.const (.int .i64 0)) rfl rfl (by kernel_rfl) (by kernel_rfl) (by kernel_rfl) (fun _ _ _ h => h) rfl Try.underlying25 size_ex rfl rfl (by decide) HS0.out ?_
    simp only [Act.put, List.setIfInBounds_toArray, List.set_cons_zero, List.set_cons_succ]
    refine held_run (i := 17) (.pointer (some ⟨g, o + 0 * 8 + 7, none⟩)) rfl (by kernel_rfl) (by kernel_rfl) (by kernel_rfl) (fun _ _ _ h => h) rfl (fun u _ => by go_simp) HS0.out ?_
    simp only [Act.put, List.setIfInBounds_toArray, List.set_cons_zero, List.set_cons_succ]
    refine held_cell (i := 18) (v := (.slice (some ⟨g2, o2, none⟩) 1 xc)) (.tmp 58) rfl rfl (by kernel_rfl) (by kernel_rfl) (by kernel_rfl) (fun _ _ _ h => h) rfl Try.underlying25 rfl rfl (fun u h => by have h9 := (HXA.out u (HED.out.trans h)).get 7 _ rfl; simpa using h9) HS0.out ?_
    simp only [Act.put, List.setIfInBounds_toArray, List.set_cons_zero, List.set_cons_succ]
    refine held_idxS (i := 19) 0 (.tmp 59) (.const (.int .i64 0)) rfl rfl (by kernel_rfl) (by kernel_rfl) (by kernel_rfl) (fun _ _ _ h => h) rfl Try.underlying25 size_ex rfl rfl (by decide) HS0.out ?_
    simp only [Act.put, List.setIfInBounds_toArray, List.set_cons_zero, List.set_cons_succ]
    refine held_loadA (i := 20) (vs := [.int .i64 a.kind, .int .i64 a.rel, .int .i64 (n : Int), .int .i64 a.const.kind, .int .i64 a.const.int, .float .f64 a.const.flt, .string a.const.text, .slice A1 a.kids.length c1]) (.tmp 60) rfl rfl (by kernel_rfl) (by kernel_rfl) (by kernel_rfl) (fun _ _ _ h => h) rfl agg_ex rfl (fun u h => HA1.out u (HED.out.trans h)) HS0.out ?_
    simp only [Act.put, List.setIfInBounds_toArray, List.set_cons_zero, List.set_cons_succ]
    refine held_do (i := 21) rfl (by kernel_rfl) rfl fun K hK => ?_
    refine wp_callF (fun x w' => x = .bool true ∧ Ext w2.drew.drew w') (fun u => by go_simp) ((HCC.out w2.drew.drew (HED.out.trans HS0.out)).mono fun e w' h => ⟨_, h.1, rfl, h.2⟩) ?_
    rintro _ w5 ⟨rfl, he5⟩
    have HS5 : Hid (Ext w2.drew w5) := Lib.hid (HS0.out.trans he5)
    refine hK _ _ HS5.out ?_
    try simp only [Act.put, List.setIfInBounds_toArray, List.set_cons_zero, List.set_cons_succ]
    clear hK K he5
    refine held_run (i := 22) (.bool true) rfl (by kernel_rfl) (by kernel_rfl) (by kernel_rfl) (fun _ _ _ h => h) rfl (fun u _ => by go_simp) HS5.out ?_
    simp only [Act.put, List.setIfInBounds_toArray, List.set_cons_zero, List.set_cons_succ]
    refine wpAnyH_done (by kernel_rfl) ?_ _
    go_upto_region 6 with fail
    have HX5 := Lib.hid (HX2d.out.ext HS5.out); have HZ5 := Lib.hid (HZ2d.out.ext HS5.out); have HE5 := Lib.hid (HED.out.trans HS5.out)
    clear HS0
    refine wp_region_held (S := Ext w5) (by kernel_rfl) ?_
    change wpAnyH _ _ _ _ _ _ _ _ w5.drew
    have HS0 : Hid (Ext w5 w5.drew) := Lib.hid (Ext.refl _).drew
    refine held_run (i := 0) (.pointer (some ⟨w.heap.size, 1, none⟩)) rfl (by kernel_rfl) (by kernel_rfl) (by kernel_rfl) (fun _ _ _ h => h) rfl (fun u _ => by go_simp) HS0.out ?_
    simp only [Act.put, List.setIfInBounds_toArray, List.set_cons_zero, List.set_cons_succ]
    refine held_cell (i := 1) (v := (.slice (some ⟨gz, oz, none⟩) cols.length zcap)) (.tmp 64) rfl rfl (by kernel_rfl) (by kernel_rfl) (by kernel_rfl) (fun _ _ _ h => h) rfl Try.underlying86 rfl rfl (fun u h => by have h9 := (HZ5.out.ext h).cells.get 1 _ rfl; simpa using h9) HS0.out ?_
    simp only [Act.put, List.setIfInBounds_toArray, List.set_cons_zero, List.set_cons_succ]
    refine held_run (i := 2) (.pointer (some ⟨w.heap.size + 1, 7, none⟩)) rfl (by kernel_rfl) (by kernel_rfl) (by kernel_rfl) (fun _ _ _ h => h) rfl (fun u _ => by go_simp) HS0.out ?_
    simp only [Act.put, List.setIfInBounds_toArray, List.set_cons_zero, List.set_cons_succ]
    refine held_cell (i := 3) (v := (.slice (some ⟨g, o, none⟩) 1 ecap)) (.tmp 66) rfl rfl (by kernel_rfl) (by kernel_rfl) (by kernel_rfl) (fun _ _ _ h => h) rfl Try.underlying25 rfl rfl (fun u h => by have h9 := (HX5.out.ext h).cells.get 7 _ rfl; simpa using h9) HS0.out ?_
    simp only [Act.put, List.setIfInBounds_toArray, List.set_cons_zero, List.set_cons_succ]
    refine held_idxS (i := 4) 0 (.tmp 67) (.const (.int .i64 0)) rfl rfl (by kernel_rfl) (by kernel_rfl) (by kernel_rfl) (fun _ _ _ h => h) rfl Try.underlying25 size_ex rfl rfl (by decide) HS0.out ?_
    simp only [Act.put, List.setIfInBounds_toArray, List.set_cons_zero, List.set_cons_succ]
    refine held_run (i := 5) (.pointer (some ⟨g, o + 0 * 8 + 7, none⟩)) rfl (by kernel_rfl) (by kernel_rfl) (by kernel_rfl) (fun _ _ _ h => h) rfl (fun u _ => by go_simp) HS0.out ?_
    simp only [Act.put, List.setIfInBounds_toArray, List.set_cons_zero, List.set_cons_succ]
    refine held_cell (i := 6) (v := (.slice (some ⟨g2, o2, none⟩) 1 xc)) (.tmp 69) rfl rfl (by kernel_rfl) (by kernel_rfl) (by kernel_rfl) (fun _ _ _ h => h) rfl Try.underlying25 rfl rfl (fun u h => by have h9 := (HXA.out u (HE5.out.trans h)).get 7 _ rfl; simpa using h9) HS0.out ?_
    simp only [Act.put, List.setIfInBounds_toArray, List.set_cons_zero, List.set_cons_succ]
    refine held_idxS (i := 7) 0 (.tmp 70) (.const (.int .i64 0)) rfl rfl (by kernel_rfl) (by kernel_rfl) (by kernel_rfl) (fun _ _ _ h => h) rfl Try.underlying25 size_ex rfl rfl (by decide) HS0.out ?_
    simp only [Act.put, List.setIfInBounds_toArray, List.set_cons_zero, List.set_cons_succ]
    refine held_run (i := 8) (.pointer (some ⟨g2, o2 + 0 * 8 + 2, none⟩)) rfl (by kernel_rfl) (by kernel_rfl) (by kernel_rfl) (fun _ _ _ h => h) rfl (fun u _ => by go_simp) HS0.out ?_
    simp only [Act.put, List.setIfInBounds_toArray, List.set_cons_zero, List.set_cons_succ]
    refine held_cell (i := 9) (v := (.int .i64 (n : Int))) (.tmp 72) rfl rfl (by kernel_rfl) (by kernel_rfl) (by kernel_rfl) (fun _ _ _ h => h) rfl Try.underlying3 rfl rfl (fun u h => by have h9 := (HA1.out u (HE5.out.trans h)).get 2 _ rfl; simpa using h9) HS0.out ?_
    simp only [Act.put, List.setIfInBounds_toArray, List.set_cons_zero, List.set_cons_succ]
    refine held_idxS (i := 10) n (.tmp 65) (.tmp 73) rfl rfl (by kernel_rfl) (by kernel_rfl) (by kernel_rfl) (fun _ _ _ h => h) rfl Try.underlying86 size_rngR9 rfl rfl hn1 HS0.out ?_
    simp only [Act.put, List.setIfInBounds_toArray, List.set_cons_zero, List.set_cons_succ]
    refine held_run (i := 11) (.pointer (some ⟨gz, oz + n * 10 + 1, none⟩)) rfl (by kernel_rfl) (by kernel_rfl) (by kernel_rfl) (fun _ _ _ h => h) rfl (fun u _ => by go_simp) HS0.out ?_
    simp only [Act.put, List.setIfInBounds_toArray, List.set_cons_zero, List.set_cons_succ]
    refine held_cell (i := 12) (v := (.int .i64 q.nulls)) (.tmp 75) rfl rfl (by kernel_rfl) (by kernel_rfl) (by kernel_rfl) (fun _ _ _ h => h) rfl Try.underlying3 rfl rfl (fun u h => by have h9 := (HQA.out u (HE5.out.trans h)).get 1 _ rfl; simpa using h9) HS0.out ?_
    simp only [Act.put, List.setIfInBounds_toArray, List.set_cons_zero, List.set_cons_succ]
    refine held_run (i := 13) (.pointer (some ⟨w.heap.size, 0, none⟩)) rfl (by kernel_rfl) (by kernel_rfl) (by kernel_rfl) (fun _ _ _ h => h) rfl (fun u _ => by go_simp) HS0.out ?_
    simp only [Act.put, List.setIfInBounds_toArray, List.set_cons_zero, List.set_cons_succ]
    refine held_cell (i := 14) (v := (.int .i64 zr)) (.tmp 77) rfl rfl (by kernel_rfl) (by kernel_rfl) (by kernel_rfl) (fun _ _ _ h => h) rfl Try.underlying3 rfl rfl (fun u h => by have h9 := (HZ5.out.ext h).cells.get 0 _ rfl; simpa using h9) HS0.out ?_
    simp only [Act.put, List.setIfInBounds_toArray, List.set_cons_zero, List.set_cons_succ]
    refine held_run (i := 15) (.bool (decide (q.nulls < zr))) rfl (by kernel_rfl) (by kernel_rfl) (by kernel_rfl) (fun _ _ _ h => h) rfl (fun u _ => by go_simp) HS0.out ?_
    simp only [Act.put, List.setIfInBounds_toArray, List.set_cons_zero, List.set_cons_succ]
    refine held_run (i := 16) (.bool (decide (q.nulls < zr))) rfl (by kernel_rfl) (by kernel_rfl) (by kernel_rfl) (fun _ _ _ h => h) rfl (fun u _ => by go_simp) HS0.out ?_
    simp only [Act.put, List.setIfInBounds_toArray, List.set_cons_zero, List.set_cons_succ]
    refine wpAnyH_done (by kernel_rfl) ?_ _
    go_wp2_with fail
    go_ret
    exact ⟨rfl, HE5.out.drew⟩
end Go.Proofs.Ytlcdjaclahhdnaa
namespace Go.Proofs.Ytlcdjaclahhdnaa
open Go.RowKit
set_option linter.unusedSimpArgs false
set_option linter.unusedVariables false
attribute [local irreducible] wpQuiet wpList Code.wp

set_option maxRecDepth 100000 in
set_option maxHeartbeats 16000000 in
theorem mr_first (zr rel : Int) (cols : List Rng) (zs : Value) (k r c : Int) (v : Val) (l : List Ex) (es : Value) (w : World) (hz : RngsIn w zs cols) (he : Ex.In w (.mk k r c v l) es) (a b : Ex) (hl : l = [a, b]) (hf : 0 ≤ (Ex.mk k r c v l).count 1 400) (hk : k = 7 ∨ k = 8 ∨ k = 9) (hac : 0 ≤ a.col) (hbc : 0 ≤ b.col) (q : Rng) (hb2 : b.kind = 2) (hc : colE cols rel a = some q) :
    Calls Try.prog 48 #[.agg #[.int .i64 zr, zs], .int .i64 rel, .agg (exCells k r c v es).toArray] w fun ev w' => ev = .returned (.bool (cmpd k q b.const false)) ∧ Ext w w' := by
  subst hl
  unfold exCells
  obtain ⟨ZA, zcap, rfl, -⟩ := hz.val
  have HZ : Hid (∀ u, Ext w u → RngsIn u (.slice ZA cols.length zcap) cols) := Lib.hid fun u h => hz.ext h
  obtain ⟨hlm, EA, ecap, rfl, hkr⟩ := he.kids
  have HX : Hid (∀ u, Ext w u → Ex.In u (.mk k r c v [a, b]) (.slice EA [a, b].length ecap)) := Lib.hid fun u h => Ex.In.ext h _ _ he
  have HKI : Hid (ExsIn w (.slice EA [a, b].length ecap) [a, b]) := Lib.hid he.kids
  clear hz he hlm hkr
  have HB0 := Lib.hid ((BoxAt.new (w := w) (vs := [.int .i64 zr, .slice ZA cols.length zcap]) (t := 88) rfl rfl).ext ((Ext.refl (w.alloc (.cells [.int .i64 zr, .slice ZA cols.length zcap].toArray 88))).alloc (.cells [.int .i64 k, .int .i64 r, .int .i64 c, .int .i64 v.kind, .int .i64 v.int, .float .f64 v.flt, .string v.text, .slice EA [a, b].length ecap].toArray 27)))
  have HB1 := Lib.hid (BoxAt.new (w := (w.alloc (.cells [.int .i64 zr, .slice ZA cols.length zcap].toArray 88))) (g := w.heap.size + 1) (vs := [.int .i64 k, .int .i64 r, .int .i64 c, .int .i64 v.kind, .int .i64 v.int, .float .f64 v.flt, .string v.text, .slice EA [a, b].length ecap]) (t := 27) (by simp) rfl)
  have HE := Lib.hid (((Ext.refl w).alloc (.cells [.int .i64 zr, .slice ZA cols.length zcap].toArray 88)).alloc (.cells [.int .i64 k, .int .i64 r, .int .i64 c, .int .i64 v.kind, .int .i64 v.int, .float .f64 v.flt, .string v.text, .slice EA [a, b].length ecap].toArray 27))
  have HF : Hid (∀ u, Ext w u → Calls Try.prog 87 #[.agg #[.int .i64 k, .int .i64 r, .int .i64 c, .int .i64 v.kind, .int .i64 v.int, .float .f64 v.flt, .string v.text, .slice EA [a, b].length ecap]] u fun ev w' => ev = .returned (.bool (decide (0 ≤ (Ex.mk k r c v [a, b]).count 1 400))) ∧ Ext u w') := Lib.hid fun u h => rformed_of (.mk k r c v [a, b]) _ u (HX.out u h)
  rw [decide_eq_true hf] at HF
  clear hf
  simp only [List.length_cons, List.length_nil, Nat.zero_add, Nat.reduceAdd] at *
  obtain ⟨g, o, s1, h1, -, hat, hia, hg⟩ := HKI.out.get 0 (by simp)
  subst h1
  obtain ⟨-, A1, c1, rfl, -⟩ := hia.mk_inv.2.2.2.2
  obtain ⟨g', o', s3, h3, -, hatb, hib, -⟩ := HKI.out.get 1 (by simp)
  simp only [Option.some.injEq, Addr.mk.injEq, and_true] at h3
  obtain ⟨rfl, rfl⟩ := h3
  obtain ⟨-, B1, d1, rfl, -⟩ := hib.mk_inv.2.2.2.2
  have HA1 : Hid (∀ u, Ext w u → At u g (o + 0 * 8) [.int .i64 a.kind, .int .i64 a.rel, .int .i64 a.col, .int .i64 a.const.kind, .int .i64 a.const.int, .float .f64 a.const.flt, .string a.const.text, .slice A1 a.kids.length c1]) := Lib.hid fun u h => hat.ext h hg
  have HB11 : Hid (∀ u, Ext w u → At u g (o + 1 * 8) [.int .i64 b.kind, .int .i64 b.rel, .int .i64 b.col, .int .i64 b.const.kind, .int .i64 b.const.int, .float .f64 b.const.flt, .string b.const.text, .slice B1 b.kids.length d1]) := Lib.hid fun u h => hatb.ext h hg
  have HC1 : Hid (∀ u, Ext w u → Calls Try.prog 106 #[.agg #[.int .i64 zr, .slice ZA cols.length zcap], .int .i64 rel, .agg #[.int .i64 a.kind, .int .i64 a.rel, .int .i64 a.col, .int .i64 a.const.kind, .int .i64 a.const.int, .float .f64 a.const.flt, .string a.const.text, .slice A1 a.kids.length c1]] u fun ev w' => ev = .returned (.bool (colE cols rel a).isSome) ∧ Ext u w') := Lib.hid fun u h => known_of zr rel cols _ a _ u (HZ.out u h) (Ex.In.ext h _ _ hia) hac
  have HC2 : Hid (∀ u, Ext w u → Calls Try.prog 106 #[.agg #[.int .i64 zr, .slice ZA cols.length zcap], .int .i64 rel, .agg #[.int .i64 b.kind, .int .i64 b.rel, .int .i64 b.col, .int .i64 b.const.kind, .int .i64 b.const.int, .float .f64 b.const.flt, .string b.const.text, .slice B1 b.kids.length d1]] u fun ev w' => ev = .returned (.bool (colE cols rel b).isSome) ∧ Ext u w') := Lib.hid fun u h => known_of zr rel cols _ b _ u (HZ.out u h) (Ex.In.ext h _ _ hib) hbc
  have HVA : Hid (a.const.flt < 18446744073709551616) := Lib.hid hia.mk_inv.2.2.2.1.flt
  have HVB : Hid (b.const.flt < 18446744073709551616) := Lib.hid hib.mk_inv.2.2.2.1.flt
  have HOKR : Hid (∀ g ∈ cols, g.Ok) := Lib.hid (HZ.out w (Ext.refl _)).ok
  have h13 : ¬ k = 13 := by omega
  have h12 : ¬ k = 12 := by omega
  have q13 : (k == 13) = false := by simpa using h13
  have q12 : (k == 12) = false := by simpa using h12
  have hl7 : ¬ k < 7 := by omega
  have hg9 : ¬ 9 < k := by omega
  clear hat hatb hia hib HKI HX h12 h13
  rw [hc] at HC1
  clear HC2 HVA
  obtain ⟨n, hn, hq⟩ : ∃ n : Nat, a.col = (n : Int) ∧ cols[n]? = some q := by
    unfold colE at hc
    split at hc
    · split at hc
      · exact ⟨a.col.toNat, by omega, hc⟩
      · cases hc
    · cases hc
  obtain ⟨hn1, hn2⟩ := List.getElem?_eq_some_iff.1 hq
  obtain ⟨gz, oz, rfl, hqa, hqg⟩ := (HZ.out w (Ext.refl _)).at_ n hn1
  have HQA : Hid (∀ u, Ext w u → At u gz (oz + n * 10) q.cells) := Lib.hid fun u h => by have h9 := hqa.ext h hqg; rw [hn2] at h9; exact h9
  have HQK : Hid (q.Ok) := Lib.hid (HOKR.out q (List.mem_of_getElem? hq))
  clear hqa hqg hn2 hq hac hbc HZ HOKR
  unfold Rng.cells at HQA
  have HM1 : Hid (∀ u, Calls Try.prog 98 #[.agg #[.int .i64 q.low.kind, .int .i64 q.low.int, .float .f64 q.low.flt, .string q.low.text], .agg #[.int .i64 b.const.kind, .int .i64 b.const.int, .float .f64 b.const.flt, .string b.const.text]] u fun ev w' => ev = .returned (.int .i64 (q.low.cmp b.const)) ∧ Ext u w') := Lib.hid fun u => rcmp_of q.low b.const u HQK.out.low.flt HVB.out
  have HM2 : Hid (∀ u, Calls Try.prog 98 #[.agg #[.int .i64 q.high.kind, .int .i64 q.high.int, .float .f64 q.high.flt, .string q.high.text], .agg #[.int .i64 b.const.kind, .int .i64 b.const.int, .float .f64 b.const.flt, .string b.const.text]] u fun ev w' => ev = .returned (.int .i64 (q.high.cmp b.const)) ∧ Ext u w') := Lib.hid fun u => rcmp_of q.high b.const u HQK.out.high.flt HVB.out
  have qb : (b.kind == 2) = true := by simpa using hb2
  clear HVB HQK hb2 hc
  have HA1n : Hid (∀ u, Ext w u → At u g (o + 0 * 8) [.int .i64 a.kind, .int .i64 a.rel, .int .i64 (n : Int), .int .i64 a.const.kind, .int .i64 a.const.int, .float .f64 a.const.flt, .string a.const.text, .slice A1 a.kids.length c1]) := Lib.hid (by rw [← hn]; exact HA1.out)
  have HC1n : Hid (∀ u, Ext w u → Calls Try.prog 106 #[.agg #[.int .i64 zr, .slice (some ⟨gz, oz, none⟩) cols.length zcap], .int .i64 rel, .agg #[.int .i64 a.kind, .int .i64 a.rel, .int .i64 (n : Int), .int .i64 a.const.kind, .int .i64 a.const.int, .float .f64 a.const.flt, .string a.const.text, .slice A1 a.kids.length c1]] u fun ev w' => ev = .returned (.bool (Option.isSome (some q))) ∧ Ext u w') := Lib.hid (by rw [← hn]; exact HC1.out)
  clear HA1 HC1 hn
  have HA1 := HA1n; have HC1 := HC1n
  clear HA1n HC1n
  obtain ⟨res, hres⟩ : ∃ res, res = cmpd k q b.const false := ⟨_, rfl⟩
  rw [← hres]
  have HRES := Lib.hid hres
  clear hres
  go_enter Try.func48, Try.ntmps48
  go_upto_region 3 with (first
    | (refine wpList_ldA (.tmp 15) (vs := [.int .i64 k, .int .i64 r, .int .i64 c, .int .i64 v.kind, .int .i64 v.int, .float .f64 v.flt, .string v.text, .slice (some ⟨g, o, none⟩) 2 ecap]) rfl rfl agg_ex rfl (HB1.out.cells) ?_)
    | (go_at_call 87; refine (HF.out _ HE.out).mono ?_; rintro ev w2 ⟨rfl, hb2⟩; have HE2 := Lib.hid (HE.out.trans hb2); have HZ2 := Lib.hid (HB0.out.ext hb2); have HX2 := Lib.hid (HB1.out.ext hb2); clear hb2))
  refine wp_region_held (S := Ext w2) (by kernel_rfl) ?_
  change wpAnyH _ _ _ _ _ _ _ _ w2.drew
  have HS0 : Hid (Ext w2 w2.drew) := Lib.hid (Ext.refl _).drew
  refine held_run (i := 0) (.pointer (some ⟨w.heap.size + 1, 0, none⟩)) rfl (by kernel_rfl) (by kernel_rfl) (by kernel_rfl) (fun _ _ _ h => h) rfl (fun u _ => by go_simp) HS0.out ?_
  simp only [Act.put, List.setIfInBounds_toArray, List.set_cons_zero, List.set_cons_succ]
  refine held_cell (i := 1) (v := (.int .i64 k)) (.tmp 18) rfl rfl (by kernel_rfl) (by kernel_rfl) (by kernel_rfl) (fun _ _ _ h => h) rfl Try.underlying3 rfl rfl (fun u h => by have h9 := (HX2.out.ext h).cells.get 0 _ rfl; simpa using h9) HS0.out ?_
  simp only [Act.put, List.setIfInBounds_toArray, List.set_cons_zero, List.set_cons_succ]
  refine held_run (i := 2) (.bool false) rfl (by kernel_rfl) (by kernel_rfl) (by kernel_rfl) (fun _ _ _ h => h) rfl (fun u _ => by go_simp) HS0.out ?_
  simp only [Act.put, List.setIfInBounds_toArray, List.set_cons_zero, List.set_cons_succ]
  refine held_run (i := 3) (.bool false) rfl (by kernel_rfl) (by kernel_rfl) (by kernel_rfl) (fun _ _ _ h => h) rfl (fun u _ => by go_simp) HS0.out ?_
  simp only [Act.put, List.setIfInBounds_toArray, List.set_cons_zero, List.set_cons_succ]
  refine held_skip (i := 4) rfl (by kernel_rfl) (by kernel_rfl) (by kernel_rfl) (fun _ _ _ h => h) rfl HS0.out ?_
  simp only [Act.put, List.setIfInBounds_toArray, List.set_cons_zero, List.set_cons_succ]
  refine held_skip (i := 5) rfl (by kernel_rfl) (by kernel_rfl) (by kernel_rfl) (fun _ _ _ h => h) rfl HS0.out ?_
  simp only [Act.put, List.setIfInBounds_toArray, List.set_cons_zero, List.set_cons_succ]
  refine held_skip (i := 6) rfl (by kernel_rfl) (by kernel_rfl) (by kernel_rfl) (fun _ _ _ h => h) rfl HS0.out ?_
  simp only [Act.put, List.setIfInBounds_toArray, List.set_cons_zero, List.set_cons_succ]
  refine held_skip (i := 7) rfl (by kernel_rfl) (by kernel_rfl) (by kernel_rfl) (fun _ _ _ h => h) rfl HS0.out ?_
  simp only [Act.put, List.setIfInBounds_toArray, List.set_cons_zero, List.set_cons_succ]
  refine held_skip (i := 8) rfl (by kernel_rfl) (by kernel_rfl) (by kernel_rfl) (fun _ _ _ h => h) rfl HS0.out ?_
  simp only [Act.put, List.setIfInBounds_toArray, List.set_cons_zero, List.set_cons_succ]
  refine held_skip (i := 9) rfl (by kernel_rfl) (by kernel_rfl) (by kernel_rfl) (fun _ _ _ h => h) rfl HS0.out ?_
  simp only [Act.put, List.setIfInBounds_toArray, List.set_cons_zero, List.set_cons_succ]
  refine held_skip (i := 10) rfl (by kernel_rfl) (by kernel_rfl) (by kernel_rfl) (fun _ _ _ h => h) rfl HS0.out ?_
  simp only [Act.put, List.setIfInBounds_toArray, List.set_cons_zero, List.set_cons_succ]
  refine held_run (i := 11) (.bool false) rfl (by kernel_rfl) (by kernel_rfl) (by kernel_rfl) (fun _ _ _ h => h) rfl (fun u _ => by go_simp) HS0.out ?_
  simp only [Act.put, List.setIfInBounds_toArray, List.set_cons_zero, List.set_cons_succ]
  refine wpAnyH_done (by kernel_rfl) ?_ _
  go_upto_region 5 with fail
  have HX2d := Lib.hid (HX2.out.ext (Ext.refl w2).drew); have HZ2d := Lib.hid (HZ2.out.ext (Ext.refl w2).drew); have HED := Lib.hid HE2.out.drew
  refine wp_region_held (S := Ext w2.drew) (by kernel_rfl) ?_
  change wpAnyH _ _ _ _ _ _ _ _ w2.drew.drew
  have HS0 : Hid (Ext w2.drew w2.drew.drew) := Lib.hid (Ext.refl _).drew
  refine held_run (i := 0) (.pointer (some ⟨w.heap.size + 1, 0, none⟩)) rfl (by kernel_rfl) (by kernel_rfl) (by kernel_rfl) (fun _ _ _ h => h) rfl (fun u _ => by go_simp) HS0.out ?_
  simp only [Act.put, List.setIfInBounds_toArray, List.set_cons_zero, List.set_cons_succ]
  refine held_cell (i := 1) (v := (.int .i64 k)) (.tmp 41) rfl rfl (by kernel_rfl) (by kernel_rfl) (by kernel_rfl) (fun _ _ _ h => h) rfl Try.underlying3 rfl rfl (fun u h => by have h9 := (HX2d.out.ext h).cells.get 0 _ rfl; simpa using h9) HS0.out ?_
  simp only [Act.put, List.setIfInBounds_toArray, List.set_cons_zero, List.set_cons_succ]
  refine held_run (i := 2) (.bool false) rfl (by kernel_rfl) (by kernel_rfl) (by kernel_rfl) (fun _ _ _ h => h) rfl (fun u _ => by go_simp) HS0.out ?_
  simp only [Act.put, List.setIfInBounds_toArray, List.set_cons_zero, List.set_cons_succ]
  refine held_run (i := 3) (.bool false) rfl (by kernel_rfl) (by kernel_rfl) (by kernel_rfl) (fun _ _ _ h => h) rfl (fun u _ => by go_simp) HS0.out ?_
  simp only [Act.put, List.setIfInBounds_toArray, List.set_cons_zero, List.set_cons_succ]
  refine held_skip (i := 4) rfl (by kernel_rfl) (by kernel_rfl) (by kernel_rfl) (fun _ _ _ h => h) rfl HS0.out ?_
  simp only [Act.put, List.setIfInBounds_toArray, List.set_cons_zero, List.set_cons_succ]
  refine held_skip (i := 5) rfl (by kernel_rfl) (by kernel_rfl) (by kernel_rfl) (fun _ _ _ h => h) rfl HS0.out ?_
  simp only [Act.put, List.setIfInBounds_toArray, List.set_cons_zero, List.set_cons_succ]
  refine held_skip (i := 6) rfl (by kernel_rfl) (by kernel_rfl) (by kernel_rfl) (fun _ _ _ h => h) rfl HS0.out ?_
  simp only [Act.put, List.setIfInBounds_toArray, List.set_cons_zero, List.set_cons_succ]
  refine held_skip (i := 7) rfl (by kernel_rfl) (by kernel_rfl) (by kernel_rfl) (fun _ _ _ h => h) rfl HS0.out ?_
  simp only [Act.put, List.setIfInBounds_toArray, List.set_cons_zero, List.set_cons_succ]
  refine held_skip (i := 8) rfl (by kernel_rfl) (by kernel_rfl) (by kernel_rfl) (fun _ _ _ h => h) rfl HS0.out ?_
  simp only [Act.put, List.setIfInBounds_toArray, List.set_cons_zero, List.set_cons_succ]
  refine held_skip (i := 9) rfl (by kernel_rfl) (by kernel_rfl) (by kernel_rfl) (fun _ _ _ h => h) rfl HS0.out ?_
  simp only [Act.put, List.setIfInBounds_toArray, List.set_cons_zero, List.set_cons_succ]
  refine held_run (i := 10) (.bool false) rfl (by kernel_rfl) (by kernel_rfl) (by kernel_rfl) (fun _ _ _ h => h) rfl (fun u _ => by go_simp) HS0.out ?_
  simp only [Act.put, List.setIfInBounds_toArray, List.set_cons_zero, List.set_cons_succ]
  refine held_run (i := 11) (.bool false) rfl (by kernel_rfl) (by kernel_rfl) (by kernel_rfl) (fun _ _ _ h => h) rfl (fun u _ => by go_simp) HS0.out ?_
  simp only [Act.put, List.setIfInBounds_toArray, List.set_cons_zero, List.set_cons_succ]
  refine held_skip (i := 12) rfl (by kernel_rfl) (by kernel_rfl) (by kernel_rfl) (fun _ _ _ h => h) rfl HS0.out ?_
  simp only [Act.put, List.setIfInBounds_toArray, List.set_cons_zero, List.set_cons_succ]
  refine held_skip (i := 13) rfl (by kernel_rfl) (by kernel_rfl) (by kernel_rfl) (fun _ _ _ h => h) rfl HS0.out ?_
  simp only [Act.put, List.setIfInBounds_toArray, List.set_cons_zero, List.set_cons_succ]
  refine held_skip (i := 14) rfl (by kernel_rfl) (by kernel_rfl) (by kernel_rfl) (fun _ _ _ h => h) rfl HS0.out ?_
  simp only [Act.put, List.setIfInBounds_toArray, List.set_cons_zero, List.set_cons_succ]
  refine held_skip (i := 15) rfl (by kernel_rfl) (by kernel_rfl) (by kernel_rfl) (fun _ _ _ h => h) rfl HS0.out ?_
  simp only [Act.put, List.setIfInBounds_toArray, List.set_cons_zero, List.set_cons_succ]
  refine held_skip (i := 16) rfl (by kernel_rfl) (by kernel_rfl) (by kernel_rfl) (fun _ _ _ h => h) rfl HS0.out ?_
  simp only [Act.put, List.setIfInBounds_toArray, List.set_cons_zero, List.set_cons_succ]
  refine held_skip (i := 17) rfl (by kernel_rfl) (by kernel_rfl) (by kernel_rfl) (fun _ _ _ h => h) rfl HS0.out ?_
  simp only [Act.put, List.setIfInBounds_toArray, List.set_cons_zero, List.set_cons_succ]
  refine held_skip (i := 18) rfl (by kernel_rfl) (by kernel_rfl) (by kernel_rfl) (fun _ _ _ h => h) rfl HS0.out ?_
  simp only [Act.put, List.setIfInBounds_toArray, List.set_cons_zero, List.set_cons_succ]
  refine held_skip (i := 19) rfl (by kernel_rfl) (by kernel_rfl) (by kernel_rfl) (fun _ _ _ h => h) rfl HS0.out ?_
  simp only [Act.put, List.setIfInBounds_toArray, List.set_cons_zero, List.set_cons_succ]
  refine held_skip (i := 20) rfl (by kernel_rfl) (by kernel_rfl) (by kernel_rfl) (fun _ _ _ h => h) rfl HS0.out ?_
  simp only [Act.put, List.setIfInBounds_toArray, List.set_cons_zero, List.set_cons_succ]
  refine held_skip (i := 21) rfl (by kernel_rfl) (by kernel_rfl) (by kernel_rfl) (fun _ _ _ h => h) rfl HS0.out ?_
  simp only [Act.put, List.setIfInBounds_toArray, List.set_cons_zero, List.set_cons_succ]
  refine held_run (i := 22) (.bool false) rfl (by kernel_rfl) (by kernel_rfl) (by kernel_rfl) (fun _ _ _ h => h) rfl (fun u _ => by go_simp) HS0.out ?_
  simp only [Act.put, List.setIfInBounds_toArray, List.set_cons_zero, List.set_cons_succ]
  refine wpAnyH_done (by kernel_rfl) ?_ _
  go_upto_region 7 with fail
  refine name_worldA (fun u => Ext w u ∧ BoxAt u (w.heap.size + 1) [.int .i64 k, .int .i64 r, .int .i64 c, .int .i64 v.kind, .int .i64 v.int, .float .f64 v.flt, .string v.text, .slice (some ⟨g, o, none⟩) 2 ecap] ∧ BoxAt u w.heap.size [.int .i64 zr, .slice (some ⟨gz, oz, none⟩) cols.length zcap]) ⟨HED.out.drew, HX2d.out.ext (Ext.refl _).drew, HZ2d.out.ext (Ext.refl _).drew⟩ ?_
  clear HX2 HZ2 HE2 HX2d HZ2d HED HB0 HB1 HE HF HS0
  rintro w5 ⟨he, hx, hz⟩
  have HE5 := Lib.hid he; have HX5 := Lib.hid hx; have HZ5 := Lib.hid hz; have HEU := Lib.hid he
  have hl_X_0 : w.heap.size + 1 < w5.heap.size := hx.lt
  clear he hx hz
  have xk5 : w5.cell? ⟨(w.heap.size + 1), 0, none⟩ = some (.int .i64 k) := (by have h9 := HX5.out.cells.get 0 _ rfl; simpa using h9)
  have x75 : w5.cell? ⟨(w.heap.size + 1), 7, none⟩ = some (.slice (some ⟨g, o, none⟩) 2 ecap) := (by have h9 := HX5.out.cells.get 7 _ rfl; simpa using h9)
  go_upto_region 10 with (first
    | (refine wpList_wish rfl fun K hK => wp_loadA (vs := [.int .i64 a.kind, .int .i64 a.rel, .int .i64 (n : Int), .int .i64 a.const.kind, .int .i64 a.const.int, .float .f64 a.const.flt, .string a.const.text, .slice A1 a.kids.length c1]) agg_ex (.tmp 90) rfl rfl (HA1.out _ HE5.out) (hK _ _ ?_))
    | (refine wpList_storeA (vs' := [.int .i64 a.kind, .int .i64 a.rel, .int .i64 (n : Int), .int .i64 a.const.kind, .int .i64 a.const.int, .float .f64 a.const.flt, .string a.const.text, .slice A1 a.kids.length c1]) (Rng.one9 rfl) (BoxAt.new (w := w5) (g := w5.heap.size) (vs := [.int .i64 0, .int .i64 0, .int .i64 0, .int .i64 0, .int .i64 0, .float .f64 0, .string ⟨#[]⟩, .slice none 0 0]) (t := 27) rfl rfl) size_ex rfl rfl (.tmp 7) (.tmp 91) rfl rfl rfl ?_; intro w6 hq1 hq2; have HE6 := Lib.hid (But.to_ext (HE5.out.alloc _) hq2 HE5.out.size); have HX6 := Lib.hid (But.box hq2 (by have := HX5.out.lt; omega) (HX5.out.ext ((Ext.refl _).alloc _))); have hl_X_A := HX5.out.lt; have HZ6 := Lib.hid (But.box hq2 (by have := HZ5.out.lt; omega) (HZ5.out.ext ((Ext.refl _).alloc _))); have hl_Z_A := HZ5.out.lt; have HA6 := Lib.hid hq1; clear hq1 hq2; clear xk5 x75; have xk6 : w6.cell? ⟨(w.heap.size + 1), 0, none⟩ = some (.int .i64 k) := (by have h9 := HX6.out.cells.get 0 _ rfl; simpa using h9); have x76 : w6.cell? ⟨(w.heap.size + 1), 7, none⟩ = some (.slice (some ⟨g, o, none⟩) 2 ecap) := (by have h9 := HX6.out.cells.get 7 _ rfl; simpa using h9); skip))
  go_upto_region 11 with (first
    | (refine wpList_wish rfl fun K hK => wp_loadA (vs := [.int .i64 b.kind, .int .i64 b.rel, .int .i64 b.col, .int .i64 b.const.kind, .int .i64 b.const.int, .float .f64 b.const.flt, .string b.const.text, .slice B1 b.kids.length d1]) agg_ex (.tmp 94) rfl rfl (HB11.out _ HE6.out) (hK _ _ ?_))
    | (refine wpList_storeA (vs' := [.int .i64 b.kind, .int .i64 b.rel, .int .i64 b.col, .int .i64 b.const.kind, .int .i64 b.const.int, .float .f64 b.const.flt, .string b.const.text, .slice B1 b.kids.length d1]) (Rng.one9 rfl) (BoxAt.new (w := w6) (g := w6.heap.size) (vs := [.int .i64 0, .int .i64 0, .int .i64 0, .int .i64 0, .int .i64 0, .float .f64 0, .string ⟨#[]⟩, .slice none 0 0]) (t := 27) rfl rfl) size_ex rfl rfl (.tmp 8) (.tmp 95) rfl rfl rfl ?_; intro w7 hq1 hq2; have HE7 := Lib.hid (But.to_ext (HE6.out.alloc _) hq2 HE6.out.size); have HX7 := Lib.hid (But.box hq2 (by have := HX6.out.lt; omega) (HX6.out.ext ((Ext.refl _).alloc _))); have hl_X_B := HX6.out.lt; have HZ7 := Lib.hid (But.box hq2 (by have := HZ6.out.lt; omega) (HZ6.out.ext ((Ext.refl _).alloc _))); have hl_Z_B := HZ6.out.lt; have HA7 := Lib.hid (But.box hq2 (by have := HA6.out.lt; omega) (HA6.out.ext ((Ext.refl _).alloc _))); have hl_A_B := HA6.out.lt; have HB7 := Lib.hid hq1; clear hq1 hq2; clear xk6 x76; have xk7 : w7.cell? ⟨(w.heap.size + 1), 0, none⟩ = some (.int .i64 k) := (by have h9 := HX7.out.cells.get 0 _ rfl; simpa using h9); have ka7 : w7.cell? ⟨w5.heap.size, 0, none⟩ = some (.int .i64 a.kind) := (by have h9 := HA7.out.cells.get 0 _ rfl; simpa using h9); have kb7 : w7.cell? ⟨w6.heap.size, 0, none⟩ = some (.int .i64 b.kind) := (by have h9 := HB7.out.cells.get 0 _ rfl; simpa using h9); have z17 : w7.cell? ⟨w.heap.size, 1, none⟩ = some (.slice (some ⟨gz, oz, none⟩) cols.length zcap) := (by have h9 := HZ7.out.cells.get 1 _ rfl; simpa using h9); skip))
  go_upto_region 12 with (first
    | (refine wpList_wish rfl fun K hK => wp_loadA (vs := [.int .i64 zr, .slice (some ⟨gz, oz, none⟩) cols.length zcap]) agg_zoneR (.tmp 3) rfl rfl (HZ7.out.cells) (hK _ _ ?_))
    | (refine wpList_wish rfl fun K hK => wp_loadA (vs := [.int .i64 a.kind, .int .i64 a.rel, .int .i64 (n : Int), .int .i64 a.const.kind, .int .i64 a.const.int, .float .f64 a.const.flt, .string a.const.text, .slice A1 a.kids.length c1]) agg_ex (.tmp 7) rfl rfl (HA7.out.cells) (hK _ _ ?_))
    | (go_at_call 106; with_reducible refine (HC1.out _ HE7.out).mono ?_; rintro ev w8 ⟨rfl, he⟩; have HE8 := Lib.hid (HE7.out.trans he); have HX8 := Lib.hid (HX7.out.ext he); have HZ8 := Lib.hid (HZ7.out.ext he); have HA8 := Lib.hid (HA7.out.ext he); have HB8 := Lib.hid (HB7.out.ext he); clear he; clear xk7 ka7 kb7 z17; have xk8 : w8.cell? ⟨(w.heap.size + 1), 0, none⟩ = some (.int .i64 k) := (by have h9 := HX8.out.cells.get 0 _ rfl; simpa using h9); have ka8 : w8.cell? ⟨w5.heap.size, 0, none⟩ = some (.int .i64 a.kind) := (by have h9 := HA8.out.cells.get 0 _ rfl; simpa using h9); have kb8 : w8.cell? ⟨w6.heap.size, 0, none⟩ = some (.int .i64 b.kind) := (by have h9 := HB8.out.cells.get 0 _ rfl; simpa using h9); have z18 : w8.cell? ⟨w.heap.size, 1, none⟩ = some (.slice (some ⟨gz, oz, none⟩) cols.length zcap) := (by have h9 := HZ8.out.cells.get 1 _ rfl; simpa using h9); skip))
  go_upto_region 14 with fail
  go_upto_region 15 with (first
    | (refine wpList_wish rfl fun K hK => wp_loadA (vs := [.int .i64 a.kind, .int .i64 a.rel, .int .i64 (n : Int), .int .i64 a.const.kind, .int .i64 a.const.int, .float .f64 a.const.flt, .string a.const.text, .slice A1 a.kids.length c1]) agg_ex (.tmp 7) rfl rfl (HA8.out.cells) (hK _ _ ?_))
    | (refine wpList_storeA (vs' := [.int .i64 a.kind, .int .i64 a.rel, .int .i64 (n : Int), .int .i64 a.const.kind, .int .i64 a.const.int, .float .f64 a.const.flt, .string a.const.text, .slice A1 a.kids.length c1]) (Rng.one9 rfl) (BoxAt.new (w := w8) (g := w8.heap.size) (vs := [.int .i64 0, .int .i64 0, .int .i64 0, .int .i64 0, .int .i64 0, .float .f64 0, .string ⟨#[]⟩, .slice none 0 0]) (t := 27) rfl rfl) size_ex rfl rfl (.tmp 10) (.tmp 119) rfl rfl rfl ?_; intro w9 hq1 hq2; have HE9 := Lib.hid (But.to_ext (HE8.out.alloc _) hq2 HE8.out.size); have HX9 := Lib.hid (But.box hq2 (by have := HX8.out.lt; omega) (HX8.out.ext ((Ext.refl _).alloc _))); have hl_X_C := HX8.out.lt; have HZ9 := Lib.hid (But.box hq2 (by have := HZ8.out.lt; omega) (HZ8.out.ext ((Ext.refl _).alloc _))); have hl_Z_C := HZ8.out.lt; have HA9 := Lib.hid (But.box hq2 (by have := HA8.out.lt; omega) (HA8.out.ext ((Ext.refl _).alloc _))); have hl_A_C := HA8.out.lt; have HB9 := Lib.hid (But.box hq2 (by have := HB8.out.lt; omega) (HB8.out.ext ((Ext.refl _).alloc _))); have hl_B_C := HB8.out.lt; have HC9 := Lib.hid hq1; clear hq1 hq2; clear xk8 ka8 kb8 z18; have xk9 : w9.cell? ⟨(w.heap.size + 1), 0, none⟩ = some (.int .i64 k) := (by have h9 := HX9.out.cells.get 0 _ rfl; simpa using h9); have z19 : w9.cell? ⟨w.heap.size, 1, none⟩ = some (.slice (some ⟨gz, oz, none⟩) cols.length zcap) := (by have h9 := HZ9.out.cells.get 1 _ rfl; simpa using h9); have c109 : w9.cell? ⟨w8.heap.size, 2, none⟩ = some (.int .i64 (n : Int)) := (by have h9 := HC9.out.cells.get 2 _ rfl; simpa using h9); skip))
  go_upto_region 19 with (first
    | (refine wpList_wish rfl fun K hK => wp_loadA (vs := [.int .i64 b.const.kind, .int .i64 b.const.int, .float .f64 b.const.flt, .string b.const.text]) agg_val (.tmp 120) rfl rfl (At.mid HB9.out.cells 3 4) (hK _ _ ?_))
    | (refine wpList_storeA (vs' := [.int .i64 b.const.kind, .int .i64 b.const.int, .float .f64 b.const.flt, .string b.const.text]) (Rng.one9 rfl) (BoxAt.new (w := w9) (g := w9.heap.size) (vs := [.int .i64 0, .int .i64 0, .float .f64 0, .string ⟨#[]⟩]) (t := 24) rfl rfl) sizeVal rfl rfl (.tmp 11) (.tmp 121) rfl rfl rfl ?_; intro w10 hq1 hq2; have HE10 := Lib.hid (But.to_ext (HE9.out.alloc _) hq2 HE9.out.size); have HX10 := Lib.hid (But.box hq2 (by have := HX9.out.lt; omega) (HX9.out.ext ((Ext.refl _).alloc _))); have hl_X_V := HX9.out.lt; have HZ10 := Lib.hid (But.box hq2 (by have := HZ9.out.lt; omega) (HZ9.out.ext ((Ext.refl _).alloc _))); have hl_Z_V := HZ9.out.lt; have HA10 := Lib.hid (But.box hq2 (by have := HA9.out.lt; omega) (HA9.out.ext ((Ext.refl _).alloc _))); have hl_A_V := HA9.out.lt; have HB10 := Lib.hid (But.box hq2 (by have := HB9.out.lt; omega) (HB9.out.ext ((Ext.refl _).alloc _))); have hl_B_V := HB9.out.lt; have HC10 := Lib.hid (But.box hq2 (by have := HC9.out.lt; omega) (HC9.out.ext ((Ext.refl _).alloc _))); have hl_C_V := HC9.out.lt; have HV10 := Lib.hid hq1; clear hq1 hq2; clear xk9 z19 c109; have xk10 : w10.cell? ⟨(w.heap.size + 1), 0, none⟩ = some (.int .i64 k) := (by have h9 := HX10.out.cells.get 0 _ rfl; simpa using h9); have z110 : w10.cell? ⟨w.heap.size, 1, none⟩ = some (.slice (some ⟨gz, oz, none⟩) cols.length zcap) := (by have h9 := HZ10.out.cells.get 1 _ rfl; simpa using h9); have c1010 : w10.cell? ⟨w8.heap.size, 2, none⟩ = some (.int .i64 (n : Int)) := (by have h9 := HC10.out.cells.get 2 _ rfl; simpa using h9); have vk10 : w10.cell? ⟨w9.heap.size, 0, none⟩ = some (.int .i64 b.const.kind) := (by have h9 := HV10.out.cells.get 0 _ rfl; simpa using h9); skip))
  go_upto_region 20 with (first
    | (refine wpList_wish rfl fun K hK => wp_loadA (vs := [.int .i64 q.kind, .int .i64 q.nulls, .int .i64 q.low.kind, .int .i64 q.low.int, .float .f64 q.low.flt, .string q.low.text, .int .i64 q.high.kind, .int .i64 q.high.int, .float .f64 q.high.flt, .string q.high.text]) agg_rngR9 (.tmp 131) rfl rfl (HQA.out _ HE10.out) (hK _ _ ?_))
    | (refine wpList_storeA (vs' := [.int .i64 q.kind, .int .i64 q.nulls, .int .i64 q.low.kind, .int .i64 q.low.int, .float .f64 q.low.flt, .string q.low.text, .int .i64 q.high.kind, .int .i64 q.high.int, .float .f64 q.high.flt, .string q.high.text]) (Rng.one9 rfl) (BoxAt.new (w := w10) (g := w10.heap.size) (vs := [.int .i64 0, .int .i64 0, .int .i64 0, .int .i64 0, .float .f64 0, .string ⟨#[]⟩, .int .i64 0, .int .i64 0, .float .f64 0, .string ⟨#[]⟩]) (t := 146) rfl rfl) size_rngR9 rfl rfl (.tmp 12) (.tmp 132) rfl rfl rfl ?_; intro w11 hq1 hq2; have HE11 := Lib.hid (But.to_ext (HE10.out.alloc _) hq2 HE10.out.size); have HX11 := Lib.hid (But.box hq2 (by have := HX10.out.lt; omega) (HX10.out.ext ((Ext.refl _).alloc _))); have hl_X_R := HX10.out.lt; have HZ11 := Lib.hid (But.box hq2 (by have := HZ10.out.lt; omega) (HZ10.out.ext ((Ext.refl _).alloc _))); have hl_Z_R := HZ10.out.lt; have HA11 := Lib.hid (But.box hq2 (by have := HA10.out.lt; omega) (HA10.out.ext ((Ext.refl _).alloc _))); have hl_A_R := HA10.out.lt; have HB11 := Lib.hid (But.box hq2 (by have := HB10.out.lt; omega) (HB10.out.ext ((Ext.refl _).alloc _))); have hl_B_R := HB10.out.lt; have HC11 := Lib.hid (But.box hq2 (by have := HC10.out.lt; omega) (HC10.out.ext ((Ext.refl _).alloc _))); have hl_C_R := HC10.out.lt; have HV11 := Lib.hid (But.box hq2 (by have := HV10.out.lt; omega) (HV10.out.ext ((Ext.refl _).alloc _))); have hl_V_R := HV10.out.lt; have HR11 := Lib.hid hq1; clear hq1 hq2; clear xk10 z110 c1010 vk10; have xk11 : w11.cell? ⟨(w.heap.size + 1), 0, none⟩ = some (.int .i64 k) := (by have h9 := HX11.out.cells.get 0 _ rfl; simpa using h9); have vk11 : w11.cell? ⟨w9.heap.size, 0, none⟩ = some (.int .i64 b.const.kind) := (by have h9 := HV11.out.cells.get 0 _ rfl; simpa using h9); have rk11 : w11.cell? ⟨w10.heap.size, 0, none⟩ = some (.int .i64 q.kind) := (by have h9 := HR11.out.cells.get 0 _ rfl; simpa using h9); skip))
  by_cases hv0 : b.const.kind = 0
  · have qv : (b.const.kind == 0) = true := by simpa using hv0
    have HV0 := Lib.hid hv0
    clear hv0
    go_wp2_with fail
    go_ret
    exact ⟨ret_bool (by rw [HRES.out]; unfold cmpd; rw [if_pos HV0.out]), HE11.out⟩
  · have qv : (b.const.kind == 0) = false := by simpa using hv0
    have HV0 := Lib.hid hv0
    clear hv0
    by_cases hq0 : q.kind = 0
    · have qq : (q.kind == 0) = true := by simpa using hq0
      have HQ0 := Lib.hid hq0
      clear hq0
      go_wp2_with fail
      go_ret
      exact ⟨ret_bool (by rw [HRES.out]; unfold cmpd; rw [if_neg HV0.out, if_pos HQ0.out]), HE11.out⟩
    · have qq : (q.kind == 0) = false := by simpa using hq0
      have HQ0 := Lib.hid hq0
      clear hq0
      by_cases hne : q.kind ≠ b.const.kind
      · have qn9 : (b.const.kind != q.kind) = true := by simpa using fun e => hne e.symm
        have HNE := Lib.hid hne
        clear hne
        go_wp2_with fail
        go_ret
        exact ⟨ret_bool (by rw [HRES.out]; unfold cmpd; rw [if_neg HV0.out, if_neg HQ0.out, if_pos HNE.out]), HE11.out⟩
      · have qn9 : (b.const.kind != q.kind) = false := by simpa using (Decidable.not_not.1 hne).symm
        have HRD : Hid (res = (if k = 7 then (decide (q.low.cmp b.const < 1) && decide (-1 < q.high.cmp b.const)) else if k = 8 then (if false = true then decide (0 < q.high.cmp b.const) else decide (q.low.cmp b.const < 0)) else (if false = true then decide (-1 < q.high.cmp b.const) else decide (q.low.cmp b.const < 1)))) := Lib.hid (by rw [HRES.out]; unfold cmpd; rw [if_neg HV0.out, if_neg HQ0.out, if_neg hne])
        clear hne HRES HV0 HQ0
        generalize hcc1 : q.low.cmp b.const = cl at *
        generalize hcc2 : q.high.cmp b.const = ch at *
        clear hcc1 hcc2
        go_upto_region 24 with fail
        go_upto_region 25 with (first
          | (refine wpList_wish rfl fun K hK => wp_loadA (vs := [.int .i64 q.low.kind, .int .i64 q.low.int, .float .f64 q.low.flt, .string q.low.text]) agg_val (.tmp 146) rfl rfl (At.mid HR11.out.cells 2 4) (hK _ _ ?_))
          | (refine wpList_wish rfl fun K hK => wp_loadA (vs := [.int .i64 b.const.kind, .int .i64 b.const.int, .float .f64 b.const.flt, .string b.const.text]) agg_val (.tmp 11) rfl rfl (HV11.out.cells) (hK _ _ ?_))
          | (go_at_call 98; with_reducible refine (HM1.out _).mono ?_; rintro ev w12 ⟨rfl, he⟩; have HE12 := Lib.hid (HE11.out.trans he); have HX12 := Lib.hid (HX11.out.ext he); have HZ12 := Lib.hid (HZ11.out.ext he); have HA12 := Lib.hid (HA11.out.ext he); have HB12 := Lib.hid (HB11.out.ext he); have HC12 := Lib.hid (HC11.out.ext he); have HV12 := Lib.hid (HV11.out.ext he); have HR12 := Lib.hid (HR11.out.ext he); clear he; clear xk11 vk11 rk11; have xk12 : w12.cell? ⟨(w.heap.size + 1), 0, none⟩ = some (.int .i64 k) := (by have h9 := HX12.out.cells.get 0 _ rfl; simpa using h9); have vk12 : w12.cell? ⟨w9.heap.size, 0, none⟩ = some (.int .i64 b.const.kind) := (by have h9 := HV12.out.cells.get 0 _ rfl; simpa using h9); have rk12 : w12.cell? ⟨w10.heap.size, 0, none⟩ = some (.int .i64 q.kind) := (by have h9 := HR12.out.cells.get 0 _ rfl; simpa using h9); skip))
        go_upto_region 26 with (first
          | (refine wpList_wish rfl fun K hK => wp_loadA (vs := [.int .i64 q.high.kind, .int .i64 q.high.int, .float .f64 q.high.flt, .string q.high.text]) agg_val (.tmp 150) rfl rfl (At.mid HR12.out.cells 6 4) (hK _ _ ?_))
          | (refine wpList_wish rfl fun K hK => wp_loadA (vs := [.int .i64 b.const.kind, .int .i64 b.const.int, .float .f64 b.const.flt, .string b.const.text]) agg_val (.tmp 11) rfl rfl (HV12.out.cells) (hK _ _ ?_))
          | (go_at_call 98; with_reducible refine (HM2.out _).mono ?_; rintro ev w13 ⟨rfl, he⟩; have HE13 := Lib.hid (HE12.out.trans he); have HX13 := Lib.hid (HX12.out.ext he); have HZ13 := Lib.hid (HZ12.out.ext he); have HA13 := Lib.hid (HA12.out.ext he); have HB13 := Lib.hid (HB12.out.ext he); have HC13 := Lib.hid (HC12.out.ext he); have HV13 := Lib.hid (HV12.out.ext he); have HR13 := Lib.hid (HR12.out.ext he); clear he; clear xk12 vk12 rk12; have xk13 : w13.cell? ⟨(w.heap.size + 1), 0, none⟩ = some (.int .i64 k) := (by have h9 := HX13.out.cells.get 0 _ rfl; simpa using h9); have vk13 : w13.cell? ⟨w9.heap.size, 0, none⟩ = some (.int .i64 b.const.kind) := (by have h9 := HV13.out.cells.get 0 _ rfl; simpa using h9); have rk13 : w13.cell? ⟨w10.heap.size, 0, none⟩ = some (.int .i64 q.kind) := (by have h9 := HR13.out.cells.get 0 _ rfl; simpa using h9); skip))
        by_cases h7 : k = 7
        · have q7 : (k == 7) = true := by simpa using h7
          have H7 := Lib.hid h7
          clear h7 hl7 hg9 hk
          by_cases u1 : cl ≤ 0
          · have u2 : cl < 1 := by omega
            by_cases u3 : 0 ≤ ch
            · have u4 : -1 < ch := by omega
              go_wp2_with fail
              go_ret
              exact ⟨ret_bool (by rw [HRD.out, if_pos H7.out]; first | rfl | (simp; done) | (simp; omega)), HE13.out⟩
            · have u4 : ¬ -1 < ch := by omega
              go_wp2_with fail
              go_ret
              exact ⟨ret_bool (by rw [HRD.out, if_pos H7.out]; first | rfl | (simp; done) | (simp; omega)), HE13.out⟩
          · have u2 : ¬ cl < 1 := by omega
            go_wp2_with fail
            go_ret
            exact ⟨ret_bool (by rw [HRD.out, if_pos H7.out]; first | rfl | (simp; done) | (simp; omega)), HE13.out⟩
        · have q7 : (k == 7) = false := by simpa using h7
          have H7 := Lib.hid h7
          by_cases h8 : k = 8
          · have q9 : (k == 9) = false := by rw [h8]; rfl
            have H8 := Lib.hid h8
            clear h7 h8 hl7 hg9 hk
            by_cases u1 : cl < 0
            · go_wp2_with fail
              go_ret
              exact ⟨ret_bool (by rw [HRD.out, if_neg H7.out, if_pos H8.out]; first | rfl | (simp; done) | (simp; omega)), HE13.out⟩
            · cases u5 : (cl == 0)
              · go_wp2_with fail
                go_ret
                exact ⟨ret_bool (by rw [HRD.out, if_neg H7.out, if_pos H8.out]; first | rfl | (simp; done) | (simp; omega)), HE13.out⟩
              · go_wp2_with fail
                go_ret
                exact ⟨ret_bool (by rw [HRD.out, if_neg H7.out, if_pos H8.out]; first | rfl | (simp; done) | (simp; omega)), HE13.out⟩
          · have q9 : (k == 9) = true := by simp; omega
            have H8 := Lib.hid h8
            clear h7 h8 hl7 hg9 hk
            by_cases u1 : cl < 0
            · have u2 : cl < 1 := by omega
              go_wp2_with fail
              go_ret
              exact ⟨ret_bool (by rw [HRD.out, if_neg H7.out, if_neg H8.out]; first | rfl | (simp; done) | (simp; omega)), HE13.out⟩
            · cases u5 : (cl == 0)
              · have u2 : ¬ cl < 1 := by simp at u5; omega
                go_wp2_with fail
                go_ret
                exact ⟨ret_bool (by rw [HRD.out, if_neg H7.out, if_neg H8.out]; first | rfl | (simp; done) | (simp; omega)), HE13.out⟩
              · have u2 : cl < 1 := by simp at u5; omega
                go_wp2_with fail
                go_ret
                exact ⟨ret_bool (by rw [HRD.out, if_neg H7.out, if_neg H8.out]; first | rfl | (simp; done) | (simp; omega)), HE13.out⟩
set_option maxRecDepth 100000 in
set_option maxHeartbeats 16000000 in
theorem mr_second (zr rel : Int) (cols : List Rng) (zs : Value) (k r c : Int) (v : Val) (l : List Ex) (es : Value) (w : World) (hz : RngsIn w zs cols) (he : Ex.In w (.mk k r c v l) es) (a b : Ex) (hl : l = [a, b]) (hf : 0 ≤ (Ex.mk k r c v l).count 1 400) (hk : k = 7 ∨ k = 8 ∨ k = 9) (hac : 0 ≤ a.col) (hbc : 0 ≤ b.col) (q : Rng) (ha2 : a.kind = 2) (hc : colE cols rel b = some q) :
    Calls Try.prog 48 #[.agg #[.int .i64 zr, zs], .int .i64 rel, .agg (exCells k r c v es).toArray] w fun ev w' => ev = .returned (.bool (cmpd k q a.const true)) ∧ Ext w w' := by
  subst hl
  unfold exCells
  obtain ⟨ZA, zcap, rfl, -⟩ := hz.val
  have HZ : Hid (∀ u, Ext w u → RngsIn u (.slice ZA cols.length zcap) cols) := Lib.hid fun u h => hz.ext h
  obtain ⟨hlm, EA, ecap, rfl, hkr⟩ := he.kids
  have HX : Hid (∀ u, Ext w u → Ex.In u (.mk k r c v [a, b]) (.slice EA [a, b].length ecap)) := Lib.hid fun u h => Ex.In.ext h _ _ he
  have HKI : Hid (ExsIn w (.slice EA [a, b].length ecap) [a, b]) := Lib.hid he.kids
  clear hz he hlm hkr
  have HB0 := Lib.hid ((BoxAt.new (w := w) (vs := [.int .i64 zr, .slice ZA cols.length zcap]) (t := 88) rfl rfl).ext ((Ext.refl (w.alloc (.cells [.int .i64 zr, .slice ZA cols.length zcap].toArray 88))).alloc (.cells [.int .i64 k, .int .i64 r, .int .i64 c, .int .i64 v.kind, .int .i64 v.int, .float .f64 v.flt, .string v.text, .slice EA [a, b].length ecap].toArray 27)))
  have HB1 := Lib.hid (BoxAt.new (w := (w.alloc (.cells [.int .i64 zr, .slice ZA cols.length zcap].toArray 88))) (g := w.heap.size + 1) (vs := [.int .i64 k, .int .i64 r, .int .i64 c, .int .i64 v.kind, .int .i64 v.int, .float .f64 v.flt, .string v.text, .slice EA [a, b].length ecap]) (t := 27) (by simp) rfl)
  have HE := Lib.hid (((Ext.refl w).alloc (.cells [.int .i64 zr, .slice ZA cols.length zcap].toArray 88)).alloc (.cells [.int .i64 k, .int .i64 r, .int .i64 c, .int .i64 v.kind, .int .i64 v.int, .float .f64 v.flt, .string v.text, .slice EA [a, b].length ecap].toArray 27))
  have HF : Hid (∀ u, Ext w u → Calls Try.prog 87 #[.agg #[.int .i64 k, .int .i64 r, .int .i64 c, .int .i64 v.kind, .int .i64 v.int, .float .f64 v.flt, .string v.text, .slice EA [a, b].length ecap]] u fun ev w' => ev = .returned (.bool (decide (0 ≤ (Ex.mk k r c v [a, b]).count 1 400))) ∧ Ext u w') := Lib.hid fun u h => rformed_of (.mk k r c v [a, b]) _ u (HX.out u h)
  rw [decide_eq_true hf] at HF
  clear hf
  simp only [List.length_cons, List.length_nil, Nat.zero_add, Nat.reduceAdd] at *
  obtain ⟨g, o, s1, h1, -, hat, hia, hg⟩ := HKI.out.get 0 (by simp)
  subst h1
  obtain ⟨-, A1, c1, rfl, -⟩ := hia.mk_inv.2.2.2.2
  obtain ⟨g', o', s3, h3, -, hatb, hib, -⟩ := HKI.out.get 1 (by simp)
  simp only [Option.some.injEq, Addr.mk.injEq, and_true] at h3
  obtain ⟨rfl, rfl⟩ := h3
  obtain ⟨-, B1, d1, rfl, -⟩ := hib.mk_inv.2.2.2.2
  have HA1 : Hid (∀ u, Ext w u → At u g (o + 0 * 8) [.int .i64 a.kind, .int .i64 a.rel, .int .i64 a.col, .int .i64 a.const.kind, .int .i64 a.const.int, .float .f64 a.const.flt, .string a.const.text, .slice A1 a.kids.length c1]) := Lib.hid fun u h => hat.ext h hg
  have HB11 : Hid (∀ u, Ext w u → At u g (o + 1 * 8) [.int .i64 b.kind, .int .i64 b.rel, .int .i64 b.col, .int .i64 b.const.kind, .int .i64 b.const.int, .float .f64 b.const.flt, .string b.const.text, .slice B1 b.kids.length d1]) := Lib.hid fun u h => hatb.ext h hg
  have HC1 : Hid (∀ u, Ext w u → Calls Try.prog 106 #[.agg #[.int .i64 zr, .slice ZA cols.length zcap], .int .i64 rel, .agg #[.int .i64 a.kind, .int .i64 a.rel, .int .i64 a.col, .int .i64 a.const.kind, .int .i64 a.const.int, .float .f64 a.const.flt, .string a.const.text, .slice A1 a.kids.length c1]] u fun ev w' => ev = .returned (.bool (colE cols rel a).isSome) ∧ Ext u w') := Lib.hid fun u h => known_of zr rel cols _ a _ u (HZ.out u h) (Ex.In.ext h _ _ hia) hac
  have HC2 : Hid (∀ u, Ext w u → Calls Try.prog 106 #[.agg #[.int .i64 zr, .slice ZA cols.length zcap], .int .i64 rel, .agg #[.int .i64 b.kind, .int .i64 b.rel, .int .i64 b.col, .int .i64 b.const.kind, .int .i64 b.const.int, .float .f64 b.const.flt, .string b.const.text, .slice B1 b.kids.length d1]] u fun ev w' => ev = .returned (.bool (colE cols rel b).isSome) ∧ Ext u w') := Lib.hid fun u h => known_of zr rel cols _ b _ u (HZ.out u h) (Ex.In.ext h _ _ hib) hbc
  have HVA : Hid (a.const.flt < 18446744073709551616) := Lib.hid hia.mk_inv.2.2.2.1.flt
  have HVB : Hid (b.const.flt < 18446744073709551616) := Lib.hid hib.mk_inv.2.2.2.1.flt
  have HOKR : Hid (∀ g ∈ cols, g.Ok) := Lib.hid (HZ.out w (Ext.refl _)).ok
  have h13 : ¬ k = 13 := by omega
  have h12 : ¬ k = 12 := by omega
  have q13 : (k == 13) = false := by simpa using h13
  have q12 : (k == 12) = false := by simpa using h12
  have hl7 : ¬ k < 7 := by omega
  have hg9 : ¬ 9 < k := by omega
  clear hat hatb hia hib HKI HX h12 h13
  have hca : colE cols rel a = none := by unfold colE; rw [if_neg (by omega)]
  rw [hca] at HC1
  rw [hc] at HC2
  clear hca HVB
  obtain ⟨n, hn, hq⟩ : ∃ n : Nat, b.col = (n : Int) ∧ cols[n]? = some q := by
    unfold colE at hc
    split at hc
    · split at hc
      · exact ⟨b.col.toNat, by omega, hc⟩
      · cases hc
    · cases hc
  obtain ⟨hn1, hn2⟩ := List.getElem?_eq_some_iff.1 hq
  obtain ⟨gz, oz, rfl, hqa, hqg⟩ := (HZ.out w (Ext.refl _)).at_ n hn1
  have HQA : Hid (∀ u, Ext w u → At u gz (oz + n * 10) q.cells) := Lib.hid fun u h => by have h9 := hqa.ext h hqg; rw [hn2] at h9; exact h9
  have HQK : Hid (q.Ok) := Lib.hid (HOKR.out q (List.mem_of_getElem? hq))
  clear hqa hqg hn2 hq hac hbc HZ HOKR
  unfold Rng.cells at HQA
  have HM1 : Hid (∀ u, Calls Try.prog 98 #[.agg #[.int .i64 q.low.kind, .int .i64 q.low.int, .float .f64 q.low.flt, .string q.low.text], .agg #[.int .i64 a.const.kind, .int .i64 a.const.int, .float .f64 a.const.flt, .string a.const.text]] u fun ev w' => ev = .returned (.int .i64 (q.low.cmp a.const)) ∧ Ext u w') := Lib.hid fun u => rcmp_of q.low a.const u HQK.out.low.flt HVA.out
  have HM2 : Hid (∀ u, Calls Try.prog 98 #[.agg #[.int .i64 q.high.kind, .int .i64 q.high.int, .float .f64 q.high.flt, .string q.high.text], .agg #[.int .i64 a.const.kind, .int .i64 a.const.int, .float .f64 a.const.flt, .string a.const.text]] u fun ev w' => ev = .returned (.int .i64 (q.high.cmp a.const)) ∧ Ext u w') := Lib.hid fun u => rcmp_of q.high a.const u HQK.out.high.flt HVA.out
  have qa : (a.kind == 2) = true := by simpa using ha2
  clear HVA HQK ha2 hc
  have HB1n : Hid (∀ u, Ext w u → At u g (o + 1 * 8) [.int .i64 b.kind, .int .i64 b.rel, .int .i64 (n : Int), .int .i64 b.const.kind, .int .i64 b.const.int, .float .f64 b.const.flt, .string b.const.text, .slice B1 b.kids.length d1]) := Lib.hid (by rw [← hn]; exact HB11.out)
  have HC2n : Hid (∀ u, Ext w u → Calls Try.prog 106 #[.agg #[.int .i64 zr, .slice (some ⟨gz, oz, none⟩) cols.length zcap], .int .i64 rel, .agg #[.int .i64 b.kind, .int .i64 b.rel, .int .i64 (n : Int), .int .i64 b.const.kind, .int .i64 b.const.int, .float .f64 b.const.flt, .string b.const.text, .slice B1 b.kids.length d1]] u fun ev w' => ev = .returned (.bool (Option.isSome (some q))) ∧ Ext u w') := Lib.hid (by rw [← hn]; exact HC2.out)
  clear HB11 HC2 hn
  have HB11 := HB1n; have HC2 := HC2n
  clear HB1n HC2n
  obtain ⟨res, hres⟩ : ∃ res, res = cmpd k q a.const true := ⟨_, rfl⟩
  rw [← hres]
  have HRES := Lib.hid hres
  clear hres
  go_enter Try.func48, Try.ntmps48
  go_upto_region 3 with (first
    | (refine wpList_ldA (.tmp 15) (vs := [.int .i64 k, .int .i64 r, .int .i64 c, .int .i64 v.kind, .int .i64 v.int, .float .f64 v.flt, .string v.text, .slice (some ⟨g, o, none⟩) 2 ecap]) rfl rfl agg_ex rfl (HB1.out.cells) ?_)
    | (go_at_call 87; refine (HF.out _ HE.out).mono ?_; rintro ev w2 ⟨rfl, hb2⟩; have HE2 := Lib.hid (HE.out.trans hb2); have HZ2 := Lib.hid (HB0.out.ext hb2); have HX2 := Lib.hid (HB1.out.ext hb2); clear hb2))
  refine wp_region_held (S := Ext w2) (by kernel_rfl) ?_
  change wpAnyH _ _ _ _ _ _ _ _ w2.drew
  have HS0 : Hid (Ext w2 w2.drew) := Lib.hid (Ext.refl _).drew
  refine held_run (i := 0) (.pointer (some ⟨w.heap.size + 1, 0, none⟩)) rfl (by kernel_rfl) (by kernel_rfl) (by kernel_rfl) (fun _ _ _ h => h) rfl (fun u _ => by go_simp) HS0.out ?_
  simp only [Act.put, List.setIfInBounds_toArray, List.set_cons_zero, List.set_cons_succ]
  refine held_cell (i := 1) (v := (.int .i64 k)) (.tmp 18) rfl rfl (by kernel_rfl) (by kernel_rfl) (by kernel_rfl) (fun _ _ _ h => h) rfl Try.underlying3 rfl rfl (fun u h => by have h9 := (HX2.out.ext h).cells.get 0 _ rfl; simpa using h9) HS0.out ?_
  simp only [Act.put, List.setIfInBounds_toArray, List.set_cons_zero, List.set_cons_succ]
  refine held_run (i := 2) (.bool false) rfl (by kernel_rfl) (by kernel_rfl) (by kernel_rfl) (fun _ _ _ h => h) rfl (fun u _ => by go_simp) HS0.out ?_
  simp only [Act.put, List.setIfInBounds_toArray, List.set_cons_zero, List.set_cons_succ]
  refine held_run (i := 3) (.bool false) rfl (by kernel_rfl) (by kernel_rfl) (by kernel_rfl) (fun _ _ _ h => h) rfl (fun u _ => by go_simp) HS0.out ?_
  simp only [Act.put, List.setIfInBounds_toArray, List.set_cons_zero, List.set_cons_succ]
  refine held_skip (i := 4) rfl (by kernel_rfl) (by kernel_rfl) (by kernel_rfl) (fun _ _ _ h => h) rfl HS0.out ?_
  simp only [Act.put, List.setIfInBounds_toArray, List.set_cons_zero, List.set_cons_succ]
  refine held_skip (i := 5) rfl (by kernel_rfl) (by kernel_rfl) (by kernel_rfl) (fun _ _ _ h => h) rfl HS0.out ?_
  simp only [Act.put, List.setIfInBounds_toArray, List.set_cons_zero, List.set_cons_succ]
  refine held_skip (i := 6) rfl (by kernel_rfl) (by kernel_rfl) (by kernel_rfl) (fun _ _ _ h => h) rfl HS0.out ?_
  simp only [Act.put, List.setIfInBounds_toArray, List.set_cons_zero, List.set_cons_succ]
  refine held_skip (i := 7) rfl (by kernel_rfl) (by kernel_rfl) (by kernel_rfl) (fun _ _ _ h => h) rfl HS0.out ?_
  simp only [Act.put, List.setIfInBounds_toArray, List.set_cons_zero, List.set_cons_succ]
  refine held_skip (i := 8) rfl (by kernel_rfl) (by kernel_rfl) (by kernel_rfl) (fun _ _ _ h => h) rfl HS0.out ?_
  simp only [Act.put, List.setIfInBounds_toArray, List.set_cons_zero, List.set_cons_succ]
  refine held_skip (i := 9) rfl (by kernel_rfl) (by kernel_rfl) (by kernel_rfl) (fun _ _ _ h => h) rfl HS0.out ?_
  simp only [Act.put, List.setIfInBounds_toArray, List.set_cons_zero, List.set_cons_succ]
  refine held_skip (i := 10) rfl (by kernel_rfl) (by kernel_rfl) (by kernel_rfl) (fun _ _ _ h => h) rfl HS0.out ?_
  simp only [Act.put, List.setIfInBounds_toArray, List.set_cons_zero, List.set_cons_succ]
  refine held_run (i := 11) (.bool false) rfl (by kernel_rfl) (by kernel_rfl) (by kernel_rfl) (fun _ _ _ h => h) rfl (fun u _ => by go_simp) HS0.out ?_
  simp only [Act.put, List.setIfInBounds_toArray, List.set_cons_zero, List.set_cons_succ]
  refine wpAnyH_done (by kernel_rfl) ?_ _
  go_upto_region 5 with fail
  have HX2d := Lib.hid (HX2.out.ext (Ext.refl w2).drew); have HZ2d := Lib.hid (HZ2.out.ext (Ext.refl w2).drew); have HED := Lib.hid HE2.out.drew
  refine wp_region_held (S := Ext w2.drew) (by kernel_rfl) ?_
  change wpAnyH _ _ _ _ _ _ _ _ w2.drew.drew
  have HS0 : Hid (Ext w2.drew w2.drew.drew) := Lib.hid (Ext.refl _).drew
  refine held_run (i := 0) (.pointer (some ⟨w.heap.size + 1, 0, none⟩)) rfl (by kernel_rfl) (by kernel_rfl) (by kernel_rfl) (fun _ _ _ h => h) rfl (fun u _ => by go_simp) HS0.out ?_
  simp only [Act.put, List.setIfInBounds_toArray, List.set_cons_zero, List.set_cons_succ]
  refine held_cell (i := 1) (v := (.int .i64 k)) (.tmp 41) rfl rfl (by kernel_rfl) (by kernel_rfl) (by kernel_rfl) (fun _ _ _ h => h) rfl Try.underlying3 rfl rfl (fun u h => by have h9 := (HX2d.out.ext h).cells.get 0 _ rfl; simpa using h9) HS0.out ?_
  simp only [Act.put, List.setIfInBounds_toArray, List.set_cons_zero, List.set_cons_succ]
  refine held_run (i := 2) (.bool false) rfl (by kernel_rfl) (by kernel_rfl) (by kernel_rfl) (fun _ _ _ h => h) rfl (fun u _ => by go_simp) HS0.out ?_
  simp only [Act.put, List.setIfInBounds_toArray, List.set_cons_zero, List.set_cons_succ]
  refine held_run (i := 3) (.bool false) rfl (by kernel_rfl) (by kernel_rfl) (by kernel_rfl) (fun _ _ _ h => h) rfl (fun u _ => by go_simp) HS0.out ?_
  simp only [Act.put, List.setIfInBounds_toArray, List.set_cons_zero, List.set_cons_succ]
  refine held_skip (i := 4) rfl (by kernel_rfl) (by kernel_rfl) (by kernel_rfl) (fun _ _ _ h => h) rfl HS0.out ?_
  simp only [Act.put, List.setIfInBounds_toArray, List.set_cons_zero, List.set_cons_succ]
  refine held_skip (i := 5) rfl (by kernel_rfl) (by kernel_rfl) (by kernel_rfl) (fun _ _ _ h => h) rfl HS0.out ?_
  simp only [Act.put, List.setIfInBounds_toArray, List.set_cons_zero, List.set_cons_succ]
  refine held_skip (i := 6) rfl (by kernel_rfl) (by kernel_rfl) (by kernel_rfl) (fun _ _ _ h => h) rfl HS0.out ?_
  simp only [Act.put, List.setIfInBounds_toArray, List.set_cons_zero, List.set_cons_succ]
  refine held_skip (i := 7) rfl (by kernel_rfl) (by kernel_rfl) (by kernel_rfl) (fun _ _ _ h => h) rfl HS0.out ?_
  simp only [Act.put, List.setIfInBounds_toArray, List.set_cons_zero, List.set_cons_succ]
  refine held_skip (i := 8) rfl (by kernel_rfl) (by kernel_rfl) (by kernel_rfl) (fun _ _ _ h => h) rfl HS0.out ?_
  simp only [Act.put, List.setIfInBounds_toArray, List.set_cons_zero, List.set_cons_succ]
  refine held_skip (i := 9) rfl (by kernel_rfl) (by kernel_rfl) (by kernel_rfl) (fun _ _ _ h => h) rfl HS0.out ?_
  simp only [Act.put, List.setIfInBounds_toArray, List.set_cons_zero, List.set_cons_succ]
  refine held_run (i := 10) (.bool false) rfl (by kernel_rfl) (by kernel_rfl) (by kernel_rfl) (fun _ _ _ h => h) rfl (fun u _ => by go_simp) HS0.out ?_
  simp only [Act.put, List.setIfInBounds_toArray, List.set_cons_zero, List.set_cons_succ]
  refine held_run (i := 11) (.bool false) rfl (by kernel_rfl) (by kernel_rfl) (by kernel_rfl) (fun _ _ _ h => h) rfl (fun u _ => by go_simp) HS0.out ?_
  simp only [Act.put, List.setIfInBounds_toArray, List.set_cons_zero, List.set_cons_succ]
  refine held_skip (i := 12) rfl (by kernel_rfl) (by kernel_rfl) (by kernel_rfl) (fun _ _ _ h => h) rfl HS0.out ?_
  simp only [Act.put, List.setIfInBounds_toArray, List.set_cons_zero, List.set_cons_succ]
  refine held_skip (i := 13) rfl (by kernel_rfl) (by kernel_rfl) (by kernel_rfl) (fun _ _ _ h => h) rfl HS0.out ?_
  simp only [Act.put, List.setIfInBounds_toArray, List.set_cons_zero, List.set_cons_succ]
  refine held_skip (i := 14) rfl (by kernel_rfl) (by kernel_rfl) (by kernel_rfl) (fun _ _ _ h => h) rfl HS0.out ?_
  simp only [Act.put, List.setIfInBounds_toArray, List.set_cons_zero, List.set_cons_succ]
  refine held_skip (i := 15) rfl (by kernel_rfl) (by kernel_rfl) (by kernel_rfl) (fun _ _ _ h => h) rfl HS0.out ?_
  simp only [Act.put, List.setIfInBounds_toArray, List.set_cons_zero, List.set_cons_succ]
  refine held_skip (i := 16) rfl (by kernel_rfl) (by kernel_rfl) (by kernel_rfl) (fun _ _ _ h => h) rfl HS0.out ?_
  simp only [Act.put, List.setIfInBounds_toArray, List.set_cons_zero, List.set_cons_succ]
  refine held_skip (i := 17) rfl (by kernel_rfl) (by kernel_rfl) (by kernel_rfl) (fun _ _ _ h => h) rfl HS0.out ?_
  simp only [Act.put, List.setIfInBounds_toArray, List.set_cons_zero, List.set_cons_succ]
  refine held_skip (i := 18) rfl (by kernel_rfl) (by kernel_rfl) (by kernel_rfl) (fun _ _ _ h => h) rfl HS0.out ?_
  simp only [Act.put, List.setIfInBounds_toArray, List.set_cons_zero, List.set_cons_succ]
  refine held_skip (i := 19) rfl (by kernel_rfl) (by kernel_rfl) (by kernel_rfl) (fun _ _ _ h => h) rfl HS0.out ?_
  simp only [Act.put, List.setIfInBounds_toArray, List.set_cons_zero, List.set_cons_succ]
  refine held_skip (i := 20) rfl (by kernel_rfl) (by kernel_rfl) (by kernel_rfl) (fun _ _ _ h => h) rfl HS0.out ?_
  simp only [Act.put, List.setIfInBounds_toArray, List.set_cons_zero, List.set_cons_succ]
  refine held_skip (i := 21) rfl (by kernel_rfl) (by kernel_rfl) (by kernel_rfl) (fun _ _ _ h => h) rfl HS0.out ?_
  simp only [Act.put, List.setIfInBounds_toArray, List.set_cons_zero, List.set_cons_succ]
  refine held_run (i := 22) (.bool false) rfl (by kernel_rfl) (by kernel_rfl) (by kernel_rfl) (fun _ _ _ h => h) rfl (fun u _ => by go_simp) HS0.out ?_
  simp only [Act.put, List.setIfInBounds_toArray, List.set_cons_zero, List.set_cons_succ]
  refine wpAnyH_done (by kernel_rfl) ?_ _
  go_upto_region 7 with fail
  refine name_worldA (fun u => Ext w u ∧ BoxAt u (w.heap.size + 1) [.int .i64 k, .int .i64 r, .int .i64 c, .int .i64 v.kind, .int .i64 v.int, .float .f64 v.flt, .string v.text, .slice (some ⟨g, o, none⟩) 2 ecap] ∧ BoxAt u w.heap.size [.int .i64 zr, .slice (some ⟨gz, oz, none⟩) cols.length zcap]) ⟨HED.out.drew, HX2d.out.ext (Ext.refl _).drew, HZ2d.out.ext (Ext.refl _).drew⟩ ?_
  clear HX2 HZ2 HE2 HX2d HZ2d HED HB0 HB1 HE HF HS0
  rintro w5 ⟨he, hx, hz⟩
  have HE5 := Lib.hid he; have HX5 := Lib.hid hx; have HZ5 := Lib.hid hz; have HEU := Lib.hid he
  have hl_X_0 : w.heap.size + 1 < w5.heap.size := hx.lt
  clear he hx hz
  have xk5 : w5.cell? ⟨(w.heap.size + 1), 0, none⟩ = some (.int .i64 k) := (by have h9 := HX5.out.cells.get 0 _ rfl; simpa using h9)
  have x75 : w5.cell? ⟨(w.heap.size + 1), 7, none⟩ = some (.slice (some ⟨g, o, none⟩) 2 ecap) := (by have h9 := HX5.out.cells.get 7 _ rfl; simpa using h9)
  go_upto_region 10 with (first
    | (refine wpList_wish rfl fun K hK => wp_loadA (vs := [.int .i64 a.kind, .int .i64 a.rel, .int .i64 a.col, .int .i64 a.const.kind, .int .i64 a.const.int, .float .f64 a.const.flt, .string a.const.text, .slice A1 a.kids.length c1]) agg_ex (.tmp 90) rfl rfl (HA1.out _ HE5.out) (hK _ _ ?_))
    | (refine wpList_storeA (vs' := [.int .i64 a.kind, .int .i64 a.rel, .int .i64 a.col, .int .i64 a.const.kind, .int .i64 a.const.int, .float .f64 a.const.flt, .string a.const.text, .slice A1 a.kids.length c1]) (Rng.one9 rfl) (BoxAt.new (w := w5) (g := w5.heap.size) (vs := [.int .i64 0, .int .i64 0, .int .i64 0, .int .i64 0, .int .i64 0, .float .f64 0, .string ⟨#[]⟩, .slice none 0 0]) (t := 27) rfl rfl) size_ex rfl rfl (.tmp 7) (.tmp 91) rfl rfl rfl ?_; intro w6 hq1 hq2; have HE6 := Lib.hid (But.to_ext (HE5.out.alloc _) hq2 HE5.out.size); have HX6 := Lib.hid (But.box hq2 (by have := HX5.out.lt; omega) (HX5.out.ext ((Ext.refl _).alloc _))); have hl_X_A := HX5.out.lt; have HZ6 := Lib.hid (But.box hq2 (by have := HZ5.out.lt; omega) (HZ5.out.ext ((Ext.refl _).alloc _))); have hl_Z_A := HZ5.out.lt; have HA6 := Lib.hid hq1; clear hq1 hq2; clear xk5 x75; have xk6 : w6.cell? ⟨(w.heap.size + 1), 0, none⟩ = some (.int .i64 k) := (by have h9 := HX6.out.cells.get 0 _ rfl; simpa using h9); have x76 : w6.cell? ⟨(w.heap.size + 1), 7, none⟩ = some (.slice (some ⟨g, o, none⟩) 2 ecap) := (by have h9 := HX6.out.cells.get 7 _ rfl; simpa using h9); skip))
  go_upto_region 11 with (first
    | (refine wpList_wish rfl fun K hK => wp_loadA (vs := [.int .i64 b.kind, .int .i64 b.rel, .int .i64 (n : Int), .int .i64 b.const.kind, .int .i64 b.const.int, .float .f64 b.const.flt, .string b.const.text, .slice B1 b.kids.length d1]) agg_ex (.tmp 94) rfl rfl (HB11.out _ HE6.out) (hK _ _ ?_))
    | (refine wpList_storeA (vs' := [.int .i64 b.kind, .int .i64 b.rel, .int .i64 (n : Int), .int .i64 b.const.kind, .int .i64 b.const.int, .float .f64 b.const.flt, .string b.const.text, .slice B1 b.kids.length d1]) (Rng.one9 rfl) (BoxAt.new (w := w6) (g := w6.heap.size) (vs := [.int .i64 0, .int .i64 0, .int .i64 0, .int .i64 0, .int .i64 0, .float .f64 0, .string ⟨#[]⟩, .slice none 0 0]) (t := 27) rfl rfl) size_ex rfl rfl (.tmp 8) (.tmp 95) rfl rfl rfl ?_; intro w7 hq1 hq2; have HE7 := Lib.hid (But.to_ext (HE6.out.alloc _) hq2 HE6.out.size); have HX7 := Lib.hid (But.box hq2 (by have := HX6.out.lt; omega) (HX6.out.ext ((Ext.refl _).alloc _))); have hl_X_B := HX6.out.lt; have HZ7 := Lib.hid (But.box hq2 (by have := HZ6.out.lt; omega) (HZ6.out.ext ((Ext.refl _).alloc _))); have hl_Z_B := HZ6.out.lt; have HA7 := Lib.hid (But.box hq2 (by have := HA6.out.lt; omega) (HA6.out.ext ((Ext.refl _).alloc _))); have hl_A_B := HA6.out.lt; have HB7 := Lib.hid hq1; clear hq1 hq2; clear xk6 x76; have xk7 : w7.cell? ⟨(w.heap.size + 1), 0, none⟩ = some (.int .i64 k) := (by have h9 := HX7.out.cells.get 0 _ rfl; simpa using h9); have ka7 : w7.cell? ⟨w5.heap.size, 0, none⟩ = some (.int .i64 a.kind) := (by have h9 := HA7.out.cells.get 0 _ rfl; simpa using h9); have kb7 : w7.cell? ⟨w6.heap.size, 0, none⟩ = some (.int .i64 b.kind) := (by have h9 := HB7.out.cells.get 0 _ rfl; simpa using h9); have z17 : w7.cell? ⟨w.heap.size, 1, none⟩ = some (.slice (some ⟨gz, oz, none⟩) cols.length zcap) := (by have h9 := HZ7.out.cells.get 1 _ rfl; simpa using h9); skip))
  go_upto_region 12 with (first
    | (refine wpList_wish rfl fun K hK => wp_loadA (vs := [.int .i64 zr, .slice (some ⟨gz, oz, none⟩) cols.length zcap]) agg_zoneR (.tmp 3) rfl rfl (HZ7.out.cells) (hK _ _ ?_))
    | (refine wpList_wish rfl fun K hK => wp_loadA (vs := [.int .i64 a.kind, .int .i64 a.rel, .int .i64 a.col, .int .i64 a.const.kind, .int .i64 a.const.int, .float .f64 a.const.flt, .string a.const.text, .slice A1 a.kids.length c1]) agg_ex (.tmp 7) rfl rfl (HA7.out.cells) (hK _ _ ?_))
    | (go_at_call 106; with_reducible refine (HC1.out _ HE7.out).mono ?_; rintro ev w8 ⟨rfl, he⟩; have HE8 := Lib.hid (HE7.out.trans he); have HX8 := Lib.hid (HX7.out.ext he); have HZ8 := Lib.hid (HZ7.out.ext he); have HA8 := Lib.hid (HA7.out.ext he); have HB8 := Lib.hid (HB7.out.ext he); clear he; clear xk7 ka7 kb7 z17; have xk8 : w8.cell? ⟨(w.heap.size + 1), 0, none⟩ = some (.int .i64 k) := (by have h9 := HX8.out.cells.get 0 _ rfl; simpa using h9); have ka8 : w8.cell? ⟨w5.heap.size, 0, none⟩ = some (.int .i64 a.kind) := (by have h9 := HA8.out.cells.get 0 _ rfl; simpa using h9); have kb8 : w8.cell? ⟨w6.heap.size, 0, none⟩ = some (.int .i64 b.kind) := (by have h9 := HB8.out.cells.get 0 _ rfl; simpa using h9); have z18 : w8.cell? ⟨w.heap.size, 1, none⟩ = some (.slice (some ⟨gz, oz, none⟩) cols.length zcap) := (by have h9 := HZ8.out.cells.get 1 _ rfl; simpa using h9); skip))
  go_upto_region 14 with (first
    | (refine wpList_wish rfl fun K hK => wp_loadA (vs := [.int .i64 zr, .slice (some ⟨gz, oz, none⟩) cols.length zcap]) agg_zoneR (.tmp 3) rfl rfl (HZ8.out.cells) (hK _ _ ?_))
    | (refine wpList_wish rfl fun K hK => wp_loadA (vs := [.int .i64 b.kind, .int .i64 b.rel, .int .i64 (n : Int), .int .i64 b.const.kind, .int .i64 b.const.int, .float .f64 b.const.flt, .string b.const.text, .slice B1 b.kids.length d1]) agg_ex (.tmp 8) rfl rfl (HB8.out.cells) (hK _ _ ?_))
    | (go_at_call 106; with_reducible refine (HC2.out _ HE8.out).mono ?_; rintro ev w9 ⟨rfl, he⟩; have HE9 := Lib.hid (HE8.out.trans he); have HX9 := Lib.hid (HX8.out.ext he); have HZ9 := Lib.hid (HZ8.out.ext he); have HA9 := Lib.hid (HA8.out.ext he); have HB9 := Lib.hid (HB8.out.ext he); clear he; clear xk8 ka8 kb8 z18; have xk9 : w9.cell? ⟨(w.heap.size + 1), 0, none⟩ = some (.int .i64 k) := (by have h9 := HX9.out.cells.get 0 _ rfl; simpa using h9); have ka9 : w9.cell? ⟨w5.heap.size, 0, none⟩ = some (.int .i64 a.kind) := (by have h9 := HA9.out.cells.get 0 _ rfl; simpa using h9); have kb9 : w9.cell? ⟨w6.heap.size, 0, none⟩ = some (.int .i64 b.kind) := (by have h9 := HB9.out.cells.get 0 _ rfl; simpa using h9); have z19 : w9.cell? ⟨w.heap.size, 1, none⟩ = some (.slice (some ⟨gz, oz, none⟩) cols.length zcap) := (by have h9 := HZ9.out.cells.get 1 _ rfl; simpa using h9); skip))
  go_upto_region 15 with (first
    | (refine wpList_wish rfl fun K hK => wp_loadA (vs := [.int .i64 a.kind, .int .i64 a.rel, .int .i64 a.col, .int .i64 a.const.kind, .int .i64 a.const.int, .float .f64 a.const.flt, .string a.const.text, .slice A1 a.kids.length c1]) agg_ex (.tmp 7) rfl rfl (HA9.out.cells) (hK _ _ ?_))
    | (refine wpList_storeA (vs' := [.int .i64 a.kind, .int .i64 a.rel, .int .i64 a.col, .int .i64 a.const.kind, .int .i64 a.const.int, .float .f64 a.const.flt, .string a.const.text, .slice A1 a.kids.length c1]) (Rng.one9 rfl) (BoxAt.new (w := w9) (g := w9.heap.size) (vs := [.int .i64 0, .int .i64 0, .int .i64 0, .int .i64 0, .int .i64 0, .float .f64 0, .string ⟨#[]⟩, .slice none 0 0]) (t := 27) rfl rfl) size_ex rfl rfl (.tmp 10) (.tmp 119) rfl rfl rfl ?_; intro w10 hq1 hq2; have HE10 := Lib.hid (But.to_ext (HE9.out.alloc _) hq2 HE9.out.size); have HX10 := Lib.hid (But.box hq2 (by have := HX9.out.lt; omega) (HX9.out.ext ((Ext.refl _).alloc _))); have hl_X_C := HX9.out.lt; have HZ10 := Lib.hid (But.box hq2 (by have := HZ9.out.lt; omega) (HZ9.out.ext ((Ext.refl _).alloc _))); have hl_Z_C := HZ9.out.lt; have HA10 := Lib.hid (But.box hq2 (by have := HA9.out.lt; omega) (HA9.out.ext ((Ext.refl _).alloc _))); have hl_A_C := HA9.out.lt; have HB10 := Lib.hid (But.box hq2 (by have := HB9.out.lt; omega) (HB9.out.ext ((Ext.refl _).alloc _))); have hl_B_C := HB9.out.lt; have HC10 := Lib.hid hq1; clear hq1 hq2; clear xk9 ka9 kb9 z19; have xk10 : w10.cell? ⟨(w.heap.size + 1), 0, none⟩ = some (.int .i64 k) := (by have h9 := HX10.out.cells.get 0 _ rfl; simpa using h9); have z110 : w10.cell? ⟨w.heap.size, 1, none⟩ = some (.slice (some ⟨gz, oz, none⟩) cols.length zcap) := (by have h9 := HZ10.out.cells.get 1 _ rfl; simpa using h9); skip))
  go_upto_region 17 with (first
    | (refine wpList_wish rfl fun K hK => wp_loadA (vs := [.int .i64 b.const.kind, .int .i64 b.const.int, .float .f64 b.const.flt, .string b.const.text]) agg_val (.tmp 120) rfl rfl (At.mid HB10.out.cells 3 4) (hK _ _ ?_))
    | (refine wpList_storeA (vs' := [.int .i64 b.const.kind, .int .i64 b.const.int, .float .f64 b.const.flt, .string b.const.text]) (Rng.one9 rfl) (BoxAt.new (w := w10) (g := w10.heap.size) (vs := [.int .i64 0, .int .i64 0, .float .f64 0, .string ⟨#[]⟩]) (t := 24) rfl rfl) sizeVal rfl rfl (.tmp 11) (.tmp 121) rfl rfl rfl ?_; intro w11 hq1 hq2; have HE11 := Lib.hid (But.to_ext (HE10.out.alloc _) hq2 HE10.out.size); have HX11 := Lib.hid (But.box hq2 (by have := HX10.out.lt; omega) (HX10.out.ext ((Ext.refl _).alloc _))); have hl_X_V := HX10.out.lt; have HZ11 := Lib.hid (But.box hq2 (by have := HZ10.out.lt; omega) (HZ10.out.ext ((Ext.refl _).alloc _))); have hl_Z_V := HZ10.out.lt; have HA11 := Lib.hid (But.box hq2 (by have := HA10.out.lt; omega) (HA10.out.ext ((Ext.refl _).alloc _))); have hl_A_V := HA10.out.lt; have HB11 := Lib.hid (But.box hq2 (by have := HB10.out.lt; omega) (HB10.out.ext ((Ext.refl _).alloc _))); have hl_B_V := HB10.out.lt; have HC11 := Lib.hid (But.box hq2 (by have := HC10.out.lt; omega) (HC10.out.ext ((Ext.refl _).alloc _))); have hl_C_V := HC10.out.lt; have HV11 := Lib.hid hq1; clear hq1 hq2; clear xk10 z110; have xk11 : w11.cell? ⟨(w.heap.size + 1), 0, none⟩ = some (.int .i64 k) := (by have h9 := HX11.out.cells.get 0 _ rfl; simpa using h9); have z111 : w11.cell? ⟨w.heap.size, 1, none⟩ = some (.slice (some ⟨gz, oz, none⟩) cols.length zcap) := (by have h9 := HZ11.out.cells.get 1 _ rfl; simpa using h9); skip))
  go_upto_region 18 with (first
    | (refine wpList_wish rfl fun K hK => wp_loadA (vs := [.int .i64 b.kind, .int .i64 b.rel, .int .i64 (n : Int), .int .i64 b.const.kind, .int .i64 b.const.int, .float .f64 b.const.flt, .string b.const.text, .slice B1 b.kids.length d1]) agg_ex (.tmp 8) rfl rfl (HB11.out.cells) (hK _ _ ?_))
    | (refine wpList_storeA (vs' := [.int .i64 b.kind, .int .i64 b.rel, .int .i64 (n : Int), .int .i64 b.const.kind, .int .i64 b.const.int, .float .f64 b.const.flt, .string b.const.text, .slice B1 b.kids.length d1]) (Rng.one9 rfl) (HC11.out) size_ex rfl rfl (.tmp 10) (.tmp 124) rfl rfl rfl ?_; intro w12 hq1 hq2; have HE12 := Lib.hid (But.to_ext HE11.out hq2 (by have := HEU.out.size; omega)); have HX12 := Lib.hid (But.box hq2 (by omega) HX11.out); have HZ12 := Lib.hid (But.box hq2 (by omega) HZ11.out); have HA12 := Lib.hid (But.box hq2 (by omega) HA11.out); have HB12 := Lib.hid (But.box hq2 (by omega) HB11.out); have HV12 := Lib.hid (But.box hq2 (by omega) HV11.out); have HC12 := Lib.hid hq1; clear hq1 hq2; clear xk11 z111; have xk12 : w12.cell? ⟨(w.heap.size + 1), 0, none⟩ = some (.int .i64 k) := (by have h9 := HX12.out.cells.get 0 _ rfl; simpa using h9); have z112 : w12.cell? ⟨w.heap.size, 1, none⟩ = some (.slice (some ⟨gz, oz, none⟩) cols.length zcap) := (by have h9 := HZ12.out.cells.get 1 _ rfl; simpa using h9); have c1012 : w12.cell? ⟨w9.heap.size, 2, none⟩ = some (.int .i64 (n : Int)) := (by have h9 := HC12.out.cells.get 2 _ rfl; simpa using h9); skip))
  go_upto_region 19 with (first
    | (refine wpList_wish rfl fun K hK => wp_loadA (vs := [.int .i64 a.const.kind, .int .i64 a.const.int, .float .f64 a.const.flt, .string a.const.text]) agg_val (.tmp 125) rfl rfl (At.mid HA12.out.cells 3 4) (hK _ _ ?_))
    | (refine wpList_storeA (vs' := [.int .i64 a.const.kind, .int .i64 a.const.int, .float .f64 a.const.flt, .string a.const.text]) (Rng.one9 rfl) (HV12.out) sizeVal rfl rfl (.tmp 11) (.tmp 126) rfl rfl rfl ?_; intro w13 hq1 hq2; have HE13 := Lib.hid (But.to_ext HE12.out hq2 (by have := HEU.out.size; omega)); have HX13 := Lib.hid (But.box hq2 (by omega) HX12.out); have HZ13 := Lib.hid (But.box hq2 (by omega) HZ12.out); have HA13 := Lib.hid (But.box hq2 (by omega) HA12.out); have HB13 := Lib.hid (But.box hq2 (by omega) HB12.out); have HC13 := Lib.hid (But.box hq2 (by omega) HC12.out); have HV13 := Lib.hid hq1; clear hq1 hq2; clear xk12 z112 c1012; have xk13 : w13.cell? ⟨(w.heap.size + 1), 0, none⟩ = some (.int .i64 k) := (by have h9 := HX13.out.cells.get 0 _ rfl; simpa using h9); have z113 : w13.cell? ⟨w.heap.size, 1, none⟩ = some (.slice (some ⟨gz, oz, none⟩) cols.length zcap) := (by have h9 := HZ13.out.cells.get 1 _ rfl; simpa using h9); have c1013 : w13.cell? ⟨w9.heap.size, 2, none⟩ = some (.int .i64 (n : Int)) := (by have h9 := HC13.out.cells.get 2 _ rfl; simpa using h9); have vk13 : w13.cell? ⟨w10.heap.size, 0, none⟩ = some (.int .i64 a.const.kind) := (by have h9 := HV13.out.cells.get 0 _ rfl; simpa using h9); skip))
  go_upto_region 20 with (first
    | (refine wpList_wish rfl fun K hK => wp_loadA (vs := [.int .i64 q.kind, .int .i64 q.nulls, .int .i64 q.low.kind, .int .i64 q.low.int, .float .f64 q.low.flt, .string q.low.text, .int .i64 q.high.kind, .int .i64 q.high.int, .float .f64 q.high.flt, .string q.high.text]) agg_rngR9 (.tmp 131) rfl rfl (HQA.out _ HE13.out) (hK _ _ ?_))
    | (refine wpList_storeA (vs' := [.int .i64 q.kind, .int .i64 q.nulls, .int .i64 q.low.kind, .int .i64 q.low.int, .float .f64 q.low.flt, .string q.low.text, .int .i64 q.high.kind, .int .i64 q.high.int, .float .f64 q.high.flt, .string q.high.text]) (Rng.one9 rfl) (BoxAt.new (w := w13) (g := w13.heap.size) (vs := [.int .i64 0, .int .i64 0, .int .i64 0, .int .i64 0, .float .f64 0, .string ⟨#[]⟩, .int .i64 0, .int .i64 0, .float .f64 0, .string ⟨#[]⟩]) (t := 146) rfl rfl) size_rngR9 rfl rfl (.tmp 12) (.tmp 132) rfl rfl rfl ?_; intro w14 hq1 hq2; have HE14 := Lib.hid (But.to_ext (HE13.out.alloc _) hq2 HE13.out.size); have HX14 := Lib.hid (But.box hq2 (by have := HX13.out.lt; omega) (HX13.out.ext ((Ext.refl _).alloc _))); have hl_X_R := HX13.out.lt; have HZ14 := Lib.hid (But.box hq2 (by have := HZ13.out.lt; omega) (HZ13.out.ext ((Ext.refl _).alloc _))); have hl_Z_R := HZ13.out.lt; have HA14 := Lib.hid (But.box hq2 (by have := HA13.out.lt; omega) (HA13.out.ext ((Ext.refl _).alloc _))); have hl_A_R := HA13.out.lt; have HB14 := Lib.hid (But.box hq2 (by have := HB13.out.lt; omega) (HB13.out.ext ((Ext.refl _).alloc _))); have hl_B_R := HB13.out.lt; have HC14 := Lib.hid (But.box hq2 (by have := HC13.out.lt; omega) (HC13.out.ext ((Ext.refl _).alloc _))); have hl_C_R := HC13.out.lt; have HV14 := Lib.hid (But.box hq2 (by have := HV13.out.lt; omega) (HV13.out.ext ((Ext.refl _).alloc _))); have hl_V_R := HV13.out.lt; have HR14 := Lib.hid hq1; clear hq1 hq2; clear xk13 z113 c1013 vk13; have xk14 : w14.cell? ⟨(w.heap.size + 1), 0, none⟩ = some (.int .i64 k) := (by have h9 := HX14.out.cells.get 0 _ rfl; simpa using h9); have vk14 : w14.cell? ⟨w10.heap.size, 0, none⟩ = some (.int .i64 a.const.kind) := (by have h9 := HV14.out.cells.get 0 _ rfl; simpa using h9); have rk14 : w14.cell? ⟨w13.heap.size, 0, none⟩ = some (.int .i64 q.kind) := (by have h9 := HR14.out.cells.get 0 _ rfl; simpa using h9); skip))
  by_cases hv0 : a.const.kind = 0
  · have qv : (a.const.kind == 0) = true := by simpa using hv0
    have HV0 := Lib.hid hv0
    clear hv0
    go_wp2_with fail
    go_ret
    exact ⟨ret_bool (by rw [HRES.out]; unfold cmpd; rw [if_pos HV0.out]), HE14.out⟩
  · have qv : (a.const.kind == 0) = false := by simpa using hv0
    have HV0 := Lib.hid hv0
    clear hv0
    by_cases hq0 : q.kind = 0
    · have qq : (q.kind == 0) = true := by simpa using hq0
      have HQ0 := Lib.hid hq0
      clear hq0
      go_wp2_with fail
      go_ret
      exact ⟨ret_bool (by rw [HRES.out]; unfold cmpd; rw [if_neg HV0.out, if_pos HQ0.out]), HE14.out⟩
    · have qq : (q.kind == 0) = false := by simpa using hq0
      have HQ0 := Lib.hid hq0
      clear hq0
      by_cases hne : q.kind ≠ a.const.kind
      · have qn9 : (a.const.kind != q.kind) = true := by simpa using fun e => hne e.symm
        have HNE := Lib.hid hne
        clear hne
        go_wp2_with fail
        go_ret
        exact ⟨ret_bool (by rw [HRES.out]; unfold cmpd; rw [if_neg HV0.out, if_neg HQ0.out, if_pos HNE.out]), HE14.out⟩
      · have qn9 : (a.const.kind != q.kind) = false := by simpa using (Decidable.not_not.1 hne).symm
        have HRD : Hid (res = (if k = 7 then (decide (q.low.cmp a.const < 1) && decide (-1 < q.high.cmp a.const)) else if k = 8 then (if true = true then decide (0 < q.high.cmp a.const) else decide (q.low.cmp a.const < 0)) else (if true = true then decide (-1 < q.high.cmp a.const) else decide (q.low.cmp a.const < 1)))) := Lib.hid (by rw [HRES.out]; unfold cmpd; rw [if_neg HV0.out, if_neg HQ0.out, if_neg hne])
        clear hne HRES HV0 HQ0
        generalize hcc1 : q.low.cmp a.const = cl at *
        generalize hcc2 : q.high.cmp a.const = ch at *
        clear hcc1 hcc2
        go_upto_region 24 with fail
        go_upto_region 25 with (first
          | (refine wpList_wish rfl fun K hK => wp_loadA (vs := [.int .i64 q.low.kind, .int .i64 q.low.int, .float .f64 q.low.flt, .string q.low.text]) agg_val (.tmp 146) rfl rfl (At.mid HR14.out.cells 2 4) (hK _ _ ?_))
          | (refine wpList_wish rfl fun K hK => wp_loadA (vs := [.int .i64 a.const.kind, .int .i64 a.const.int, .float .f64 a.const.flt, .string a.const.text]) agg_val (.tmp 11) rfl rfl (HV14.out.cells) (hK _ _ ?_))
          | (go_at_call 98; with_reducible refine (HM1.out _).mono ?_; rintro ev w15 ⟨rfl, he⟩; have HE15 := Lib.hid (HE14.out.trans he); have HX15 := Lib.hid (HX14.out.ext he); have HZ15 := Lib.hid (HZ14.out.ext he); have HA15 := Lib.hid (HA14.out.ext he); have HB15 := Lib.hid (HB14.out.ext he); have HC15 := Lib.hid (HC14.out.ext he); have HV15 := Lib.hid (HV14.out.ext he); have HR15 := Lib.hid (HR14.out.ext he); clear he; clear xk14 vk14 rk14; have xk15 : w15.cell? ⟨(w.heap.size + 1), 0, none⟩ = some (.int .i64 k) := (by have h9 := HX15.out.cells.get 0 _ rfl; simpa using h9); have vk15 : w15.cell? ⟨w10.heap.size, 0, none⟩ = some (.int .i64 a.const.kind) := (by have h9 := HV15.out.cells.get 0 _ rfl; simpa using h9); have rk15 : w15.cell? ⟨w13.heap.size, 0, none⟩ = some (.int .i64 q.kind) := (by have h9 := HR15.out.cells.get 0 _ rfl; simpa using h9); skip))
        go_upto_region 26 with (first
          | (refine wpList_wish rfl fun K hK => wp_loadA (vs := [.int .i64 q.high.kind, .int .i64 q.high.int, .float .f64 q.high.flt, .string q.high.text]) agg_val (.tmp 150) rfl rfl (At.mid HR15.out.cells 6 4) (hK _ _ ?_))
          | (refine wpList_wish rfl fun K hK => wp_loadA (vs := [.int .i64 a.const.kind, .int .i64 a.const.int, .float .f64 a.const.flt, .string a.const.text]) agg_val (.tmp 11) rfl rfl (HV15.out.cells) (hK _ _ ?_))
          | (go_at_call 98; with_reducible refine (HM2.out _).mono ?_; rintro ev w16 ⟨rfl, he⟩; have HE16 := Lib.hid (HE15.out.trans he); have HX16 := Lib.hid (HX15.out.ext he); have HZ16 := Lib.hid (HZ15.out.ext he); have HA16 := Lib.hid (HA15.out.ext he); have HB16 := Lib.hid (HB15.out.ext he); have HC16 := Lib.hid (HC15.out.ext he); have HV16 := Lib.hid (HV15.out.ext he); have HR16 := Lib.hid (HR15.out.ext he); clear he; clear xk15 vk15 rk15; have xk16 : w16.cell? ⟨(w.heap.size + 1), 0, none⟩ = some (.int .i64 k) := (by have h9 := HX16.out.cells.get 0 _ rfl; simpa using h9); have vk16 : w16.cell? ⟨w10.heap.size, 0, none⟩ = some (.int .i64 a.const.kind) := (by have h9 := HV16.out.cells.get 0 _ rfl; simpa using h9); have rk16 : w16.cell? ⟨w13.heap.size, 0, none⟩ = some (.int .i64 q.kind) := (by have h9 := HR16.out.cells.get 0 _ rfl; simpa using h9); skip))
        by_cases h7 : k = 7
        · have q7 : (k == 7) = true := by simpa using h7
          have H7 := Lib.hid h7
          clear h7 hl7 hg9 hk
          by_cases u1 : cl ≤ 0
          · have u2 : cl < 1 := by omega
            by_cases u3 : 0 ≤ ch
            · have u4 : -1 < ch := by omega
              go_wp2_with fail
              go_ret
              exact ⟨ret_bool (by rw [HRD.out, if_pos H7.out]; first | rfl | (simp; done) | (simp; omega)), HE16.out⟩
            · have u4 : ¬ -1 < ch := by omega
              go_wp2_with fail
              go_ret
              exact ⟨ret_bool (by rw [HRD.out, if_pos H7.out]; first | rfl | (simp; done) | (simp; omega)), HE16.out⟩
          · have u2 : ¬ cl < 1 := by omega
            go_wp2_with fail
            go_ret
            exact ⟨ret_bool (by rw [HRD.out, if_pos H7.out]; first | rfl | (simp; done) | (simp; omega)), HE16.out⟩
        · have q7 : (k == 7) = false := by simpa using h7
          have H7 := Lib.hid h7
          by_cases h8 : k = 8
          · have q9 : (k == 9) = false := by rw [h8]; rfl
            have H8 := Lib.hid h8
            clear h7 h8 hl7 hg9 hk
            by_cases u1 : 0 < ch
            · go_wp2_with fail
              go_ret
              exact ⟨ret_bool (by rw [HRD.out, if_neg H7.out, if_pos H8.out]; first | rfl | (simp; done) | (simp; omega)), HE16.out⟩
            · cases u5 : (ch == 0)
              · go_wp2_with fail
                go_ret
                exact ⟨ret_bool (by rw [HRD.out, if_neg H7.out, if_pos H8.out]; first | rfl | (simp; done) | (simp; omega)), HE16.out⟩
              · go_wp2_with fail
                go_ret
                exact ⟨ret_bool (by rw [HRD.out, if_neg H7.out, if_pos H8.out]; first | rfl | (simp; done) | (simp; omega)), HE16.out⟩
          · have q9 : (k == 9) = true := by simp; omega
            have H8 := Lib.hid h8
            clear h7 h8 hl7 hg9 hk
            by_cases u1 : 0 < ch
            · have u2 : -1 < ch := by omega
              go_wp2_with fail
              go_ret
              exact ⟨ret_bool (by rw [HRD.out, if_neg H7.out, if_neg H8.out]; first | rfl | (simp; done) | (simp; omega)), HE16.out⟩
            · cases u5 : (ch == 0)
              · have u2 : ¬ -1 < ch := by simp at u5; omega
                go_wp2_with fail
                go_ret
                exact ⟨ret_bool (by rw [HRD.out, if_neg H7.out, if_neg H8.out]; first | rfl | (simp; done) | (simp; omega)), HE16.out⟩
              · have u2 : -1 < ch := by simp at u5; omega
                go_wp2_with fail
                go_ret
                exact ⟨ret_bool (by rw [HRD.out, if_neg H7.out, if_neg H8.out]; first | rfl | (simp; done) | (simp; omega)), HE16.out⟩
set_option maxRecDepth 100000 in
set_option maxHeartbeats 16000000 in
theorem mr_none (zr rel : Int) (cols : List Rng) (zs : Value) (k r c : Int) (v : Val) (l : List Ex) (es : Value) (w : World) (hz : RngsIn w zs cols) (he : Ex.In w (.mk k r c v l) es) (a b : Ex) (hl : l = [a, b]) (hf : 0 ≤ (Ex.mk k r c v l).count 1 400) (hk : k = 7 ∨ k = 8 ∨ k = 9) (hac : 0 ≤ a.col) (hbc : 0 ≤ b.col) (h1 : (colE cols rel a).isSome = true → b.kind ≠ 2) (h2 : (colE cols rel b).isSome = true → a.kind ≠ 2) :
    Calls Try.prog 48 #[.agg #[.int .i64 zr, zs], .int .i64 rel, .agg (exCells k r c v es).toArray] w fun ev w' => ev = .returned (.bool (true)) ∧ Ext w w' := by
  subst hl
  unfold exCells
  obtain ⟨ZA, zcap, rfl, -⟩ := hz.val
  have HZ : Hid (∀ u, Ext w u → RngsIn u (.slice ZA cols.length zcap) cols) := Lib.hid fun u h => hz.ext h
  obtain ⟨hlm, EA, ecap, rfl, hkr⟩ := he.kids
  have HX : Hid (∀ u, Ext w u → Ex.In u (.mk k r c v [a, b]) (.slice EA [a, b].length ecap)) := Lib.hid fun u h => Ex.In.ext h _ _ he
  have HKI : Hid (ExsIn w (.slice EA [a, b].length ecap) [a, b]) := Lib.hid he.kids
  clear hz he hlm hkr
  have HB0 := Lib.hid ((BoxAt.new (w := w) (vs := [.int .i64 zr, .slice ZA cols.length zcap]) (t := 88) rfl rfl).ext ((Ext.refl (w.alloc (.cells [.int .i64 zr, .slice ZA cols.length zcap].toArray 88))).alloc (.cells [.int .i64 k, .int .i64 r, .int .i64 c, .int .i64 v.kind, .int .i64 v.int, .float .f64 v.flt, .string v.text, .slice EA [a, b].length ecap].toArray 27)))
  have HB1 := Lib.hid (BoxAt.new (w := (w.alloc (.cells [.int .i64 zr, .slice ZA cols.length zcap].toArray 88))) (g := w.heap.size + 1) (vs := [.int .i64 k, .int .i64 r, .int .i64 c, .int .i64 v.kind, .int .i64 v.int, .float .f64 v.flt, .string v.text, .slice EA [a, b].length ecap]) (t := 27) (by simp) rfl)
  have HE := Lib.hid (((Ext.refl w).alloc (.cells [.int .i64 zr, .slice ZA cols.length zcap].toArray 88)).alloc (.cells [.int .i64 k, .int .i64 r, .int .i64 c, .int .i64 v.kind, .int .i64 v.int, .float .f64 v.flt, .string v.text, .slice EA [a, b].length ecap].toArray 27))
  have HF : Hid (∀ u, Ext w u → Calls Try.prog 87 #[.agg #[.int .i64 k, .int .i64 r, .int .i64 c, .int .i64 v.kind, .int .i64 v.int, .float .f64 v.flt, .string v.text, .slice EA [a, b].length ecap]] u fun ev w' => ev = .returned (.bool (decide (0 ≤ (Ex.mk k r c v [a, b]).count 1 400))) ∧ Ext u w') := Lib.hid fun u h => rformed_of (.mk k r c v [a, b]) _ u (HX.out u h)
  rw [decide_eq_true hf] at HF
  clear hf
  simp only [List.length_cons, List.length_nil, Nat.zero_add, Nat.reduceAdd] at *
  obtain ⟨g, o, s1, h1, -, hat, hia, hg⟩ := HKI.out.get 0 (by simp)
  subst h1
  obtain ⟨-, A1, c1, rfl, -⟩ := hia.mk_inv.2.2.2.2
  obtain ⟨g', o', s3, h3, -, hatb, hib, -⟩ := HKI.out.get 1 (by simp)
  simp only [Option.some.injEq, Addr.mk.injEq, and_true] at h3
  obtain ⟨rfl, rfl⟩ := h3
  obtain ⟨-, B1, d1, rfl, -⟩ := hib.mk_inv.2.2.2.2
  have HA1 : Hid (∀ u, Ext w u → At u g (o + 0 * 8) [.int .i64 a.kind, .int .i64 a.rel, .int .i64 a.col, .int .i64 a.const.kind, .int .i64 a.const.int, .float .f64 a.const.flt, .string a.const.text, .slice A1 a.kids.length c1]) := Lib.hid fun u h => hat.ext h hg
  have HB11 : Hid (∀ u, Ext w u → At u g (o + 1 * 8) [.int .i64 b.kind, .int .i64 b.rel, .int .i64 b.col, .int .i64 b.const.kind, .int .i64 b.const.int, .float .f64 b.const.flt, .string b.const.text, .slice B1 b.kids.length d1]) := Lib.hid fun u h => hatb.ext h hg
  have HC1 : Hid (∀ u, Ext w u → Calls Try.prog 106 #[.agg #[.int .i64 zr, .slice ZA cols.length zcap], .int .i64 rel, .agg #[.int .i64 a.kind, .int .i64 a.rel, .int .i64 a.col, .int .i64 a.const.kind, .int .i64 a.const.int, .float .f64 a.const.flt, .string a.const.text, .slice A1 a.kids.length c1]] u fun ev w' => ev = .returned (.bool (colE cols rel a).isSome) ∧ Ext u w') := Lib.hid fun u h => known_of zr rel cols _ a _ u (HZ.out u h) (Ex.In.ext h _ _ hia) hac
  have HC2 : Hid (∀ u, Ext w u → Calls Try.prog 106 #[.agg #[.int .i64 zr, .slice ZA cols.length zcap], .int .i64 rel, .agg #[.int .i64 b.kind, .int .i64 b.rel, .int .i64 b.col, .int .i64 b.const.kind, .int .i64 b.const.int, .float .f64 b.const.flt, .string b.const.text, .slice B1 b.kids.length d1]] u fun ev w' => ev = .returned (.bool (colE cols rel b).isSome) ∧ Ext u w') := Lib.hid fun u h => known_of zr rel cols _ b _ u (HZ.out u h) (Ex.In.ext h _ _ hib) hbc
  have HVA : Hid (a.const.flt < 18446744073709551616) := Lib.hid hia.mk_inv.2.2.2.1.flt
  have HVB : Hid (b.const.flt < 18446744073709551616) := Lib.hid hib.mk_inv.2.2.2.1.flt
  have HOKR : Hid (∀ g ∈ cols, g.Ok) := Lib.hid (HZ.out w (Ext.refl _)).ok
  have h13 : ¬ k = 13 := by omega
  have h12 : ¬ k = 12 := by omega
  have q13 : (k == 13) = false := by simpa using h13
  have q12 : (k == 12) = false := by simpa using h12
  have hl7 : ¬ k < 7 := by omega
  have hg9 : ¬ 9 < k := by omega
  clear hat hatb hia hib HKI HX h12 h13
  have h1n : (colE cols rel a).isSome = true → (b.kind == 2) = false := fun h => by simpa using h1 h
  have h2n : (colE cols rel b).isSome = true → (a.kind == 2) = false := fun h => by simpa using h2 h
  clear h1 h2 HVA HVB HOKR HZ hac hbc
  generalize (colE cols rel a).isSome = b1 at *
  generalize (colE cols rel b).isSome = b2 at *
  go_enter Try.func48, Try.ntmps48
  go_upto_region 3 with (first
    | (refine wpList_ldA (.tmp 15) (vs := [.int .i64 k, .int .i64 r, .int .i64 c, .int .i64 v.kind, .int .i64 v.int, .float .f64 v.flt, .string v.text, .slice (some ⟨g, o, none⟩) 2 ecap]) rfl rfl agg_ex rfl (HB1.out.cells) ?_)
    | (go_at_call 87; refine (HF.out _ HE.out).mono ?_; rintro ev w2 ⟨rfl, hb2⟩; have HE2 := Lib.hid (HE.out.trans hb2); have HZ2 := Lib.hid (HB0.out.ext hb2); have HX2 := Lib.hid (HB1.out.ext hb2); clear hb2))
  refine wp_region_held (S := Ext w2) (by kernel_rfl) ?_
  change wpAnyH _ _ _ _ _ _ _ _ w2.drew
  have HS0 : Hid (Ext w2 w2.drew) := Lib.hid (Ext.refl _).drew
  refine held_run (i := 0) (.pointer (some ⟨w.heap.size + 1, 0, none⟩)) rfl (by kernel_rfl) (by kernel_rfl) (by kernel_rfl) (fun _ _ _ h => h) rfl (fun u _ => by go_simp) HS0.out ?_
  simp only [Act.put, List.setIfInBounds_toArray, List.set_cons_zero, List.set_cons_succ]
  refine held_cell (i := 1) (v := (.int .i64 k)) (.tmp 18) rfl rfl (by kernel_rfl) (by kernel_rfl) (by kernel_rfl) (fun _ _ _ h => h) rfl Try.underlying3 rfl rfl (fun u h => by have h9 := (HX2.out.ext h).cells.get 0 _ rfl; simpa using h9) HS0.out ?_
  simp only [Act.put, List.setIfInBounds_toArray, List.set_cons_zero, List.set_cons_succ]
  refine held_run (i := 2) (.bool false) rfl (by kernel_rfl) (by kernel_rfl) (by kernel_rfl) (fun _ _ _ h => h) rfl (fun u _ => by go_simp) HS0.out ?_
  simp only [Act.put, List.setIfInBounds_toArray, List.set_cons_zero, List.set_cons_succ]
  refine held_run (i := 3) (.bool false) rfl (by kernel_rfl) (by kernel_rfl) (by kernel_rfl) (fun _ _ _ h => h) rfl (fun u _ => by go_simp) HS0.out ?_
  simp only [Act.put, List.setIfInBounds_toArray, List.set_cons_zero, List.set_cons_succ]
  refine held_skip (i := 4) rfl (by kernel_rfl) (by kernel_rfl) (by kernel_rfl) (fun _ _ _ h => h) rfl HS0.out ?_
  simp only [Act.put, List.setIfInBounds_toArray, List.set_cons_zero, List.set_cons_succ]
  refine held_skip (i := 5) rfl (by kernel_rfl) (by kernel_rfl) (by kernel_rfl) (fun _ _ _ h => h) rfl HS0.out ?_
  simp only [Act.put, List.setIfInBounds_toArray, List.set_cons_zero, List.set_cons_succ]
  refine held_skip (i := 6) rfl (by kernel_rfl) (by kernel_rfl) (by kernel_rfl) (fun _ _ _ h => h) rfl HS0.out ?_
  simp only [Act.put, List.setIfInBounds_toArray, List.set_cons_zero, List.set_cons_succ]
  refine held_skip (i := 7) rfl (by kernel_rfl) (by kernel_rfl) (by kernel_rfl) (fun _ _ _ h => h) rfl HS0.out ?_
  simp only [Act.put, List.setIfInBounds_toArray, List.set_cons_zero, List.set_cons_succ]
  refine held_skip (i := 8) rfl (by kernel_rfl) (by kernel_rfl) (by kernel_rfl) (fun _ _ _ h => h) rfl HS0.out ?_
  simp only [Act.put, List.setIfInBounds_toArray, List.set_cons_zero, List.set_cons_succ]
  refine held_skip (i := 9) rfl (by kernel_rfl) (by kernel_rfl) (by kernel_rfl) (fun _ _ _ h => h) rfl HS0.out ?_
  simp only [Act.put, List.setIfInBounds_toArray, List.set_cons_zero, List.set_cons_succ]
  refine held_skip (i := 10) rfl (by kernel_rfl) (by kernel_rfl) (by kernel_rfl) (fun _ _ _ h => h) rfl HS0.out ?_
  simp only [Act.put, List.setIfInBounds_toArray, List.set_cons_zero, List.set_cons_succ]
  refine held_run (i := 11) (.bool false) rfl (by kernel_rfl) (by kernel_rfl) (by kernel_rfl) (fun _ _ _ h => h) rfl (fun u _ => by go_simp) HS0.out ?_
  simp only [Act.put, List.setIfInBounds_toArray, List.set_cons_zero, List.set_cons_succ]
  refine wpAnyH_done (by kernel_rfl) ?_ _
  go_upto_region 5 with fail
  have HX2d := Lib.hid (HX2.out.ext (Ext.refl w2).drew); have HZ2d := Lib.hid (HZ2.out.ext (Ext.refl w2).drew); have HED := Lib.hid HE2.out.drew
  refine wp_region_held (S := Ext w2.drew) (by kernel_rfl) ?_
  change wpAnyH _ _ _ _ _ _ _ _ w2.drew.drew
  have HS0 : Hid (Ext w2.drew w2.drew.drew) := Lib.hid (Ext.refl _).drew
  refine held_run (i := 0) (.pointer (some ⟨w.heap.size + 1, 0, none⟩)) rfl (by kernel_rfl) (by kernel_rfl) (by kernel_rfl) (fun _ _ _ h => h) rfl (fun u _ => by go_simp) HS0.out ?_
  simp only [Act.put, List.setIfInBounds_toArray, List.set_cons_zero, List.set_cons_succ]
  refine held_cell (i := 1) (v := (.int .i64 k)) (.tmp 41) rfl rfl (by kernel_rfl) (by kernel_rfl) (by kernel_rfl) (fun _ _ _ h => h) rfl Try.underlying3 rfl rfl (fun u h => by have h9 := (HX2d.out.ext h).cells.get 0 _ rfl; simpa using h9) HS0.out ?_
  simp only [Act.put, List.setIfInBounds_toArray, List.set_cons_zero, List.set_cons_succ]
  refine held_run (i := 2) (.bool false) rfl (by kernel_rfl) (by kernel_rfl) (by kernel_rfl) (fun _ _ _ h => h) rfl (fun u _ => by go_simp) HS0.out ?_
  simp only [Act.put, List.setIfInBounds_toArray, List.set_cons_zero, List.set_cons_succ]
  refine held_run (i := 3) (.bool false) rfl (by kernel_rfl) (by kernel_rfl) (by kernel_rfl) (fun _ _ _ h => h) rfl (fun u _ => by go_simp) HS0.out ?_
  simp only [Act.put, List.setIfInBounds_toArray, List.set_cons_zero, List.set_cons_succ]
  refine held_skip (i := 4) rfl (by kernel_rfl) (by kernel_rfl) (by kernel_rfl) (fun _ _ _ h => h) rfl HS0.out ?_
  simp only [Act.put, List.setIfInBounds_toArray, List.set_cons_zero, List.set_cons_succ]
  refine held_skip (i := 5) rfl (by kernel_rfl) (by kernel_rfl) (by kernel_rfl) (fun _ _ _ h => h) rfl HS0.out ?_
  simp only [Act.put, List.setIfInBounds_toArray, List.set_cons_zero, List.set_cons_succ]
  refine held_skip (i := 6) rfl (by kernel_rfl) (by kernel_rfl) (by kernel_rfl) (fun _ _ _ h => h) rfl HS0.out ?_
  simp only [Act.put, List.setIfInBounds_toArray, List.set_cons_zero, List.set_cons_succ]
  refine held_skip (i := 7) rfl (by kernel_rfl) (by kernel_rfl) (by kernel_rfl) (fun _ _ _ h => h) rfl HS0.out ?_
  simp only [Act.put, List.setIfInBounds_toArray, List.set_cons_zero, List.set_cons_succ]
  refine held_skip (i := 8) rfl (by kernel_rfl) (by kernel_rfl) (by kernel_rfl) (fun _ _ _ h => h) rfl HS0.out ?_
  simp only [Act.put, List.setIfInBounds_toArray, List.set_cons_zero, List.set_cons_succ]
  refine held_skip (i := 9) rfl (by kernel_rfl) (by kernel_rfl) (by kernel_rfl) (fun _ _ _ h => h) rfl HS0.out ?_
  simp only [Act.put, List.setIfInBounds_toArray, List.set_cons_zero, List.set_cons_succ]
  refine held_run (i := 10) (.bool false) rfl (by kernel_rfl) (by kernel_rfl) (by kernel_rfl) (fun _ _ _ h => h) rfl (fun u _ => by go_simp) HS0.out ?_
  simp only [Act.put, List.setIfInBounds_toArray, List.set_cons_zero, List.set_cons_succ]
  refine held_run (i := 11) (.bool false) rfl (by kernel_rfl) (by kernel_rfl) (by kernel_rfl) (fun _ _ _ h => h) rfl (fun u _ => by go_simp) HS0.out ?_
  simp only [Act.put, List.setIfInBounds_toArray, List.set_cons_zero, List.set_cons_succ]
  refine held_skip (i := 12) rfl (by kernel_rfl) (by kernel_rfl) (by kernel_rfl) (fun _ _ _ h => h) rfl HS0.out ?_
  simp only [Act.put, List.setIfInBounds_toArray, List.set_cons_zero, List.set_cons_succ]
  refine held_skip (i := 13) rfl (by kernel_rfl) (by kernel_rfl) (by kernel_rfl) (fun _ _ _ h => h) rfl HS0.out ?_
  simp only [Act.put, List.setIfInBounds_toArray, List.set_cons_zero, List.set_cons_succ]
  refine held_skip (i := 14) rfl (by kernel_rfl) (by kernel_rfl) (by kernel_rfl) (fun _ _ _ h => h) rfl HS0.out ?_
  simp only [Act.put, List.setIfInBounds_toArray, List.set_cons_zero, List.set_cons_succ]
  refine held_skip (i := 15) rfl (by kernel_rfl) (by kernel_rfl) (by kernel_rfl) (fun _ _ _ h => h) rfl HS0.out ?_
  simp only [Act.put, List.setIfInBounds_toArray, List.set_cons_zero, List.set_cons_succ]
  refine held_skip (i := 16) rfl (by kernel_rfl) (by kernel_rfl) (by kernel_rfl) (fun _ _ _ h => h) rfl HS0.out ?_
  simp only [Act.put, List.setIfInBounds_toArray, List.set_cons_zero, List.set_cons_succ]
  refine held_skip (i := 17) rfl (by kernel_rfl) (by kernel_rfl) (by kernel_rfl) (fun _ _ _ h => h) rfl HS0.out ?_
  simp only [Act.put, List.setIfInBounds_toArray, List.set_cons_zero, List.set_cons_succ]
  refine held_skip (i := 18) rfl (by kernel_rfl) (by kernel_rfl) (by kernel_rfl) (fun _ _ _ h => h) rfl HS0.out ?_
  simp only [Act.put, List.setIfInBounds_toArray, List.set_cons_zero, List.set_cons_succ]
  refine held_skip (i := 19) rfl (by kernel_rfl) (by kernel_rfl) (by kernel_rfl) (fun _ _ _ h => h) rfl HS0.out ?_
  simp only [Act.put, List.setIfInBounds_toArray, List.set_cons_zero, List.set_cons_succ]
  refine held_skip (i := 20) rfl (by kernel_rfl) (by kernel_rfl) (by kernel_rfl) (fun _ _ _ h => h) rfl HS0.out ?_
  simp only [Act.put, List.setIfInBounds_toArray, List.set_cons_zero, List.set_cons_succ]
  refine held_skip (i := 21) rfl (by kernel_rfl) (by kernel_rfl) (by kernel_rfl) (fun _ _ _ h => h) rfl HS0.out ?_
  simp only [Act.put, List.setIfInBounds_toArray, List.set_cons_zero, List.set_cons_succ]
  refine held_run (i := 22) (.bool false) rfl (by kernel_rfl) (by kernel_rfl) (by kernel_rfl) (fun _ _ _ h => h) rfl (fun u _ => by go_simp) HS0.out ?_
  simp only [Act.put, List.setIfInBounds_toArray, List.set_cons_zero, List.set_cons_succ]
  refine wpAnyH_done (by kernel_rfl) ?_ _
  go_upto_region 7 with fail
  refine name_worldA (fun u => Ext w u ∧ BoxAt u (w.heap.size + 1) [.int .i64 k, .int .i64 r, .int .i64 c, .int .i64 v.kind, .int .i64 v.int, .float .f64 v.flt, .string v.text, .slice (some ⟨g, o, none⟩) 2 ecap] ∧ BoxAt u w.heap.size [.int .i64 zr, .slice ZA cols.length zcap]) ⟨HED.out.drew, HX2d.out.ext (Ext.refl _).drew, HZ2d.out.ext (Ext.refl _).drew⟩ ?_
  clear HX2 HZ2 HE2 HX2d HZ2d HED HB0 HB1 HE HF HS0
  rintro w5 ⟨he, hx, hz⟩
  have HE5 := Lib.hid he; have HX5 := Lib.hid hx; have HZ5 := Lib.hid hz; have HEU := Lib.hid he
  have hl_X_0 : w.heap.size + 1 < w5.heap.size := hx.lt
  clear he hx hz
  have xk5 : w5.cell? ⟨(w.heap.size + 1), 0, none⟩ = some (.int .i64 k) := (by have h9 := HX5.out.cells.get 0 _ rfl; simpa using h9)
  have x75 : w5.cell? ⟨(w.heap.size + 1), 7, none⟩ = some (.slice (some ⟨g, o, none⟩) 2 ecap) := (by have h9 := HX5.out.cells.get 7 _ rfl; simpa using h9)
  go_upto_region 10 with (first
    | (refine wpList_wish rfl fun K hK => wp_loadA (vs := [.int .i64 a.kind, .int .i64 a.rel, .int .i64 a.col, .int .i64 a.const.kind, .int .i64 a.const.int, .float .f64 a.const.flt, .string a.const.text, .slice A1 a.kids.length c1]) agg_ex (.tmp 90) rfl rfl (HA1.out _ HE5.out) (hK _ _ ?_))
    | (refine wpList_storeA (vs' := [.int .i64 a.kind, .int .i64 a.rel, .int .i64 a.col, .int .i64 a.const.kind, .int .i64 a.const.int, .float .f64 a.const.flt, .string a.const.text, .slice A1 a.kids.length c1]) (Rng.one9 rfl) (BoxAt.new (w := w5) (g := w5.heap.size) (vs := [.int .i64 0, .int .i64 0, .int .i64 0, .int .i64 0, .int .i64 0, .float .f64 0, .string ⟨#[]⟩, .slice none 0 0]) (t := 27) rfl rfl) size_ex rfl rfl (.tmp 7) (.tmp 91) rfl rfl rfl ?_; intro w6 hq1 hq2; have HE6 := Lib.hid (But.to_ext (HE5.out.alloc _) hq2 HE5.out.size); have HX6 := Lib.hid (But.box hq2 (by have := HX5.out.lt; omega) (HX5.out.ext ((Ext.refl _).alloc _))); have hl_X_A := HX5.out.lt; have HZ6 := Lib.hid (But.box hq2 (by have := HZ5.out.lt; omega) (HZ5.out.ext ((Ext.refl _).alloc _))); have hl_Z_A := HZ5.out.lt; have HA6 := Lib.hid hq1; clear hq1 hq2; clear xk5 x75; have xk6 : w6.cell? ⟨(w.heap.size + 1), 0, none⟩ = some (.int .i64 k) := (by have h9 := HX6.out.cells.get 0 _ rfl; simpa using h9); have x76 : w6.cell? ⟨(w.heap.size + 1), 7, none⟩ = some (.slice (some ⟨g, o, none⟩) 2 ecap) := (by have h9 := HX6.out.cells.get 7 _ rfl; simpa using h9); skip))
  go_upto_region 11 with (first
    | (refine wpList_wish rfl fun K hK => wp_loadA (vs := [.int .i64 b.kind, .int .i64 b.rel, .int .i64 b.col, .int .i64 b.const.kind, .int .i64 b.const.int, .float .f64 b.const.flt, .string b.const.text, .slice B1 b.kids.length d1]) agg_ex (.tmp 94) rfl rfl (HB11.out _ HE6.out) (hK _ _ ?_))
    | (refine wpList_storeA (vs' := [.int .i64 b.kind, .int .i64 b.rel, .int .i64 b.col, .int .i64 b.const.kind, .int .i64 b.const.int, .float .f64 b.const.flt, .string b.const.text, .slice B1 b.kids.length d1]) (Rng.one9 rfl) (BoxAt.new (w := w6) (g := w6.heap.size) (vs := [.int .i64 0, .int .i64 0, .int .i64 0, .int .i64 0, .int .i64 0, .float .f64 0, .string ⟨#[]⟩, .slice none 0 0]) (t := 27) rfl rfl) size_ex rfl rfl (.tmp 8) (.tmp 95) rfl rfl rfl ?_; intro w7 hq1 hq2; have HE7 := Lib.hid (But.to_ext (HE6.out.alloc _) hq2 HE6.out.size); have HX7 := Lib.hid (But.box hq2 (by have := HX6.out.lt; omega) (HX6.out.ext ((Ext.refl _).alloc _))); have hl_X_B := HX6.out.lt; have HZ7 := Lib.hid (But.box hq2 (by have := HZ6.out.lt; omega) (HZ6.out.ext ((Ext.refl _).alloc _))); have hl_Z_B := HZ6.out.lt; have HA7 := Lib.hid (But.box hq2 (by have := HA6.out.lt; omega) (HA6.out.ext ((Ext.refl _).alloc _))); have hl_A_B := HA6.out.lt; have HB7 := Lib.hid hq1; clear hq1 hq2; clear xk6 x76; have xk7 : w7.cell? ⟨(w.heap.size + 1), 0, none⟩ = some (.int .i64 k) := (by have h9 := HX7.out.cells.get 0 _ rfl; simpa using h9); have ka7 : w7.cell? ⟨w5.heap.size, 0, none⟩ = some (.int .i64 a.kind) := (by have h9 := HA7.out.cells.get 0 _ rfl; simpa using h9); have kb7 : w7.cell? ⟨w6.heap.size, 0, none⟩ = some (.int .i64 b.kind) := (by have h9 := HB7.out.cells.get 0 _ rfl; simpa using h9); have z17 : w7.cell? ⟨w.heap.size, 1, none⟩ = some (.slice ZA cols.length zcap) := (by have h9 := HZ7.out.cells.get 1 _ rfl; simpa using h9); skip))
  cases b1
  · go_upto_region 12 with (first
      | (refine wpList_wish rfl fun K hK => wp_loadA (vs := [.int .i64 zr, .slice ZA cols.length zcap]) agg_zoneR (.tmp 3) rfl rfl (HZ7.out.cells) (hK _ _ ?_))
      | (refine wpList_wish rfl fun K hK => wp_loadA (vs := [.int .i64 a.kind, .int .i64 a.rel, .int .i64 a.col, .int .i64 a.const.kind, .int .i64 a.const.int, .float .f64 a.const.flt, .string a.const.text, .slice A1 a.kids.length c1]) agg_ex (.tmp 7) rfl rfl (HA7.out.cells) (hK _ _ ?_))
      | (go_at_call 106; with_reducible refine (HC1.out _ HE7.out).mono ?_; rintro ev w8 ⟨rfl, he⟩; have HE8 := Lib.hid (HE7.out.trans he); have HX8 := Lib.hid (HX7.out.ext he); have HZ8 := Lib.hid (HZ7.out.ext he); have HA8 := Lib.hid (HA7.out.ext he); have HB8 := Lib.hid (HB7.out.ext he); clear he; clear xk7 ka7 kb7 z17; have xk8 : w8.cell? ⟨(w.heap.size + 1), 0, none⟩ = some (.int .i64 k) := (by have h9 := HX8.out.cells.get 0 _ rfl; simpa using h9); have ka8 : w8.cell? ⟨w5.heap.size, 0, none⟩ = some (.int .i64 a.kind) := (by have h9 := HA8.out.cells.get 0 _ rfl; simpa using h9); have kb8 : w8.cell? ⟨w6.heap.size, 0, none⟩ = some (.int .i64 b.kind) := (by have h9 := HB8.out.cells.get 0 _ rfl; simpa using h9); have z18 : w8.cell? ⟨w.heap.size, 1, none⟩ = some (.slice ZA cols.length zcap) := (by have h9 := HZ8.out.cells.get 1 _ rfl; simpa using h9); skip))
    cases b2
    · go_wp2_with (first
        | (refine wpList_wish rfl fun K hK => wp_loadA (vs := [.int .i64 zr, .slice ZA cols.length zcap]) agg_zoneR (.tmp 3) rfl rfl (HZ8.out.cells) (hK _ _ ?_))
        | (refine wpList_wish rfl fun K hK => wp_loadA (vs := [.int .i64 b.kind, .int .i64 b.rel, .int .i64 b.col, .int .i64 b.const.kind, .int .i64 b.const.int, .float .f64 b.const.flt, .string b.const.text, .slice B1 b.kids.length d1]) agg_ex (.tmp 8) rfl rfl (HB8.out.cells) (hK _ _ ?_))
        | (go_at_call 106; with_reducible refine (HC2.out _ HE8.out).mono ?_; rintro ev w9 ⟨rfl, he⟩; have HE9 := Lib.hid (HE8.out.trans he); have HX9 := Lib.hid (HX8.out.ext he); have HZ9 := Lib.hid (HZ8.out.ext he); have HA9 := Lib.hid (HA8.out.ext he); have HB9 := Lib.hid (HB8.out.ext he); clear he; clear xk8 ka8 kb8 z18; have xk9 : w9.cell? ⟨(w.heap.size + 1), 0, none⟩ = some (.int .i64 k) := (by have h9 := HX9.out.cells.get 0 _ rfl; simpa using h9); have ka9 : w9.cell? ⟨w5.heap.size, 0, none⟩ = some (.int .i64 a.kind) := (by have h9 := HA9.out.cells.get 0 _ rfl; simpa using h9); have kb9 : w9.cell? ⟨w6.heap.size, 0, none⟩ = some (.int .i64 b.kind) := (by have h9 := HB9.out.cells.get 0 _ rfl; simpa using h9); have z19 : w9.cell? ⟨w.heap.size, 1, none⟩ = some (.slice ZA cols.length zcap) := (by have h9 := HZ9.out.cells.get 1 _ rfl; simpa using h9); skip))
      go_ret
      exact ⟨rfl, HE9.out⟩
    · have qa : (a.kind == 2) = false := h2n rfl
      go_wp2_with (first
        | (refine wpList_wish rfl fun K hK => wp_loadA (vs := [.int .i64 zr, .slice ZA cols.length zcap]) agg_zoneR (.tmp 3) rfl rfl (HZ8.out.cells) (hK _ _ ?_))
        | (refine wpList_wish rfl fun K hK => wp_loadA (vs := [.int .i64 b.kind, .int .i64 b.rel, .int .i64 b.col, .int .i64 b.const.kind, .int .i64 b.const.int, .float .f64 b.const.flt, .string b.const.text, .slice B1 b.kids.length d1]) agg_ex (.tmp 8) rfl rfl (HB8.out.cells) (hK _ _ ?_))
        | (go_at_call 106; with_reducible refine (HC2.out _ HE8.out).mono ?_; rintro ev w9 ⟨rfl, he⟩; have HE9 := Lib.hid (HE8.out.trans he); have HX9 := Lib.hid (HX8.out.ext he); have HZ9 := Lib.hid (HZ8.out.ext he); have HA9 := Lib.hid (HA8.out.ext he); have HB9 := Lib.hid (HB8.out.ext he); clear he; clear xk8 ka8 kb8 z18; have xk9 : w9.cell? ⟨(w.heap.size + 1), 0, none⟩ = some (.int .i64 k) := (by have h9 := HX9.out.cells.get 0 _ rfl; simpa using h9); have ka9 : w9.cell? ⟨w5.heap.size, 0, none⟩ = some (.int .i64 a.kind) := (by have h9 := HA9.out.cells.get 0 _ rfl; simpa using h9); have kb9 : w9.cell? ⟨w6.heap.size, 0, none⟩ = some (.int .i64 b.kind) := (by have h9 := HB9.out.cells.get 0 _ rfl; simpa using h9); have z19 : w9.cell? ⟨w.heap.size, 1, none⟩ = some (.slice ZA cols.length zcap) := (by have h9 := HZ9.out.cells.get 1 _ rfl; simpa using h9); skip))
      go_ret
      exact ⟨rfl, HE9.out⟩
  · have qb : (b.kind == 2) = false := h1n rfl
    go_upto_region 12 with (first
      | (refine wpList_wish rfl fun K hK => wp_loadA (vs := [.int .i64 zr, .slice ZA cols.length zcap]) agg_zoneR (.tmp 3) rfl rfl (HZ7.out.cells) (hK _ _ ?_))
      | (refine wpList_wish rfl fun K hK => wp_loadA (vs := [.int .i64 a.kind, .int .i64 a.rel, .int .i64 a.col, .int .i64 a.const.kind, .int .i64 a.const.int, .float .f64 a.const.flt, .string a.const.text, .slice A1 a.kids.length c1]) agg_ex (.tmp 7) rfl rfl (HA7.out.cells) (hK _ _ ?_))
      | (go_at_call 106; with_reducible refine (HC1.out _ HE7.out).mono ?_; rintro ev w8 ⟨rfl, he⟩; have HE8 := Lib.hid (HE7.out.trans he); have HX8 := Lib.hid (HX7.out.ext he); have HZ8 := Lib.hid (HZ7.out.ext he); have HA8 := Lib.hid (HA7.out.ext he); have HB8 := Lib.hid (HB7.out.ext he); clear he; clear xk7 ka7 kb7 z17; have xk8 : w8.cell? ⟨(w.heap.size + 1), 0, none⟩ = some (.int .i64 k) := (by have h9 := HX8.out.cells.get 0 _ rfl; simpa using h9); have ka8 : w8.cell? ⟨w5.heap.size, 0, none⟩ = some (.int .i64 a.kind) := (by have h9 := HA8.out.cells.get 0 _ rfl; simpa using h9); have kb8 : w8.cell? ⟨w6.heap.size, 0, none⟩ = some (.int .i64 b.kind) := (by have h9 := HB8.out.cells.get 0 _ rfl; simpa using h9); have z18 : w8.cell? ⟨w.heap.size, 1, none⟩ = some (.slice ZA cols.length zcap) := (by have h9 := HZ8.out.cells.get 1 _ rfl; simpa using h9); skip))
    cases b2
    · go_wp2_with (first
        | (refine wpList_wish rfl fun K hK => wp_loadA (vs := [.int .i64 zr, .slice ZA cols.length zcap]) agg_zoneR (.tmp 3) rfl rfl (HZ8.out.cells) (hK _ _ ?_))
        | (refine wpList_wish rfl fun K hK => wp_loadA (vs := [.int .i64 b.kind, .int .i64 b.rel, .int .i64 b.col, .int .i64 b.const.kind, .int .i64 b.const.int, .float .f64 b.const.flt, .string b.const.text, .slice B1 b.kids.length d1]) agg_ex (.tmp 8) rfl rfl (HB8.out.cells) (hK _ _ ?_))
        | (go_at_call 106; with_reducible refine (HC2.out _ HE8.out).mono ?_; rintro ev w9 ⟨rfl, he⟩; have HE9 := Lib.hid (HE8.out.trans he); have HX9 := Lib.hid (HX8.out.ext he); have HZ9 := Lib.hid (HZ8.out.ext he); have HA9 := Lib.hid (HA8.out.ext he); have HB9 := Lib.hid (HB8.out.ext he); clear he; clear xk8 ka8 kb8 z18; have xk9 : w9.cell? ⟨(w.heap.size + 1), 0, none⟩ = some (.int .i64 k) := (by have h9 := HX9.out.cells.get 0 _ rfl; simpa using h9); have ka9 : w9.cell? ⟨w5.heap.size, 0, none⟩ = some (.int .i64 a.kind) := (by have h9 := HA9.out.cells.get 0 _ rfl; simpa using h9); have kb9 : w9.cell? ⟨w6.heap.size, 0, none⟩ = some (.int .i64 b.kind) := (by have h9 := HB9.out.cells.get 0 _ rfl; simpa using h9); have z19 : w9.cell? ⟨w.heap.size, 1, none⟩ = some (.slice ZA cols.length zcap) := (by have h9 := HZ9.out.cells.get 1 _ rfl; simpa using h9); skip))
      go_ret
      exact ⟨rfl, HE9.out⟩
    · have qa : (a.kind == 2) = false := h2n rfl
      go_wp2_with (first
        | (refine wpList_wish rfl fun K hK => wp_loadA (vs := [.int .i64 zr, .slice ZA cols.length zcap]) agg_zoneR (.tmp 3) rfl rfl (HZ8.out.cells) (hK _ _ ?_))
        | (refine wpList_wish rfl fun K hK => wp_loadA (vs := [.int .i64 b.kind, .int .i64 b.rel, .int .i64 b.col, .int .i64 b.const.kind, .int .i64 b.const.int, .float .f64 b.const.flt, .string b.const.text, .slice B1 b.kids.length d1]) agg_ex (.tmp 8) rfl rfl (HB8.out.cells) (hK _ _ ?_))
        | (go_at_call 106; with_reducible refine (HC2.out _ HE8.out).mono ?_; rintro ev w9 ⟨rfl, he⟩; have HE9 := Lib.hid (HE8.out.trans he); have HX9 := Lib.hid (HX8.out.ext he); have HZ9 := Lib.hid (HZ8.out.ext he); have HA9 := Lib.hid (HA8.out.ext he); have HB9 := Lib.hid (HB8.out.ext he); clear he; clear xk8 ka8 kb8 z18; have xk9 : w9.cell? ⟨(w.heap.size + 1), 0, none⟩ = some (.int .i64 k) := (by have h9 := HX9.out.cells.get 0 _ rfl; simpa using h9); have ka9 : w9.cell? ⟨w5.heap.size, 0, none⟩ = some (.int .i64 a.kind) := (by have h9 := HA9.out.cells.get 0 _ rfl; simpa using h9); have kb9 : w9.cell? ⟨w6.heap.size, 0, none⟩ = some (.int .i64 b.kind) := (by have h9 := HB9.out.cells.get 0 _ rfl; simpa using h9); have z19 : w9.cell? ⟨w.heap.size, 1, none⟩ = some (.slice ZA cols.length zcap) := (by have h9 := HZ9.out.cells.get 1 _ rfl; simpa using h9); skip))
      go_ret
      exact ⟨rfl, HE9.out⟩
end Go.Proofs.Ytlcdjaclahhdnaa
