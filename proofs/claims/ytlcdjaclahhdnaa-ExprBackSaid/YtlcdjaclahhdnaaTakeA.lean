/- The call of expr.Take's taker, where the bytes of an expression lie ahead. The calls of expr.Take$1 and expr.Take, where the bytes of an expression lie ahead. -/
import Derived.Test.YtlcdjaclahhdnaaTkA
import Derived.Test.YtlcdjaclahhdnaaPlainE
import Derived.Test.YtlcdjaclahhdnaaTake
import Derived.Test.YtlcdjaclahhdnaaW22
import Derived.Deep.RegionHeld3
import Derived.Deep.RegionLaw
import Derived.Deep.DeepCutAuto
import Derived.Deep.CutBlock
namespace Go.Proofs.Ytlcdjaclahhdnaa
open Go.RowKit
set_option linter.unusedSimpArgs false
set_option linter.unusedVariables false

/-- The blocks that a taker turns. -/
def TkM (r tb : Nat) : Nat → Prop := fun k => k = r ∨ k = tb
def zeroEx : List Value := exCells 0 0 0 Val.null (.slice none 0 0)
/-- Within a call of take: what the reader still holds, the taker's budget, the expression so far. -/
structure TkI (W0 : World) (r B tb g4 g5 : Nat) (xs : List Nat) (m : Int) (vs : List Value) (w : World) : Prop where
  rd : Rd w r B xs
  bx : BoxAt w tb [.pointer (some ⟨r, 0, none⟩), .int .i64 m]
  b4 : BoxAt w g4 zeroEx
  b5 : BoxAt w g5 vs
  bt : ButS (TkM r tb) W0 w
section
variable {W0 w w' : World} {r B tb g4 g5 : Nat} {xs xs' : List Nat} {m m' : Int} {vs : List Value}
theorem TkI.ext (h : TkI W0 r B tb g4 g5 xs m vs w) (he : Ext w w') : TkI W0 r B tb g4 g5 xs m vs w' :=
  ⟨h.rd.ext he, h.bx.ext he, h.b4.ext he, h.b5.ext he, h.bt.trans (.of_ext he)⟩
theorem TkI.buts (h : TkI W0 r B tb g4 g5 xs m vs w) (hb : ButS (TkM r tb) w w') (hr : Rd w' r B xs') (hx : BoxAt w' tb [.pointer (some ⟨r, 0, none⟩), .int .i64 m']) (n4 : g4 ≠ r ∧ g4 ≠ tb) (n5 : g5 ≠ r ∧ g5 ≠ tb) : TkI W0 r B tb g4 g5 xs' m' vs w' :=
  ⟨hr, hx, hb.box (fun h => by rcases h with h | h; exact n4.1 h; exact n4.2 h) h.b4, hb.box (fun h => by rcases h with h | h; exact n5.1 h; exact n5.2 h) h.b5, h.bt.trans hb⟩
theorem TkI.but (h : TkI W0 r B tb g4 g5 xs m vs w) (hb : But r w w') (hr : Rd w' r B xs') (nt : tb ≠ r) (n4 : g4 ≠ r ∧ g4 ≠ tb) (n5 : g5 ≠ r ∧ g5 ≠ tb) : TkI W0 r B tb g4 g5 xs' m vs w' :=
  h.buts (.of_but hb (.inl rfl)) hr (But.box hb nt h.bx) n4 n5
theorem TkI.setT (h : TkI W0 r B tb g4 g5 xs m vs w) (m' : Int) (nt : tb ≠ r ∧ tb ≠ B) (n4 : g4 ≠ r ∧ g4 ≠ tb) (n5 : g5 ≠ r ∧ g5 ≠ tb) : TkI W0 r B tb g4 g5 xs m' vs (w.setCell ⟨tb, 1, none⟩ (.int .i64 m')) :=
  h.buts (ButS.set_ (p := ⟨tb, 1, none⟩) (.inr (.inr rfl)) _ (ButS.refl _ _)) (h.rd.set nt.1 nt.2) (h.bx.setAt (i := 1) (.int .i64 m') (by simp)) n4 n5
theorem ButS.one {g : Nat} {i : Nat} {u : Value} {w : World} : ButS (fun k => k = g) w (w.setCell ⟨g, i, none⟩ u) := ButS.set_ (M := fun k => k = g) (p := ⟨g, i, none⟩) (.inr rfl) _ (ButS.refl _ _)
theorem TkI.set5 (h : TkI W0 r B tb g4 g5 xs m vs w) {i : Nat} (u : Value) (hi : i < vs.length) (n4 : g4 ≠ g5) (n5 : g5 ≠ r ∧ g5 ≠ tb ∧ g5 ≠ B) (h5 : W0.heap.size ≤ g5) : TkI W0 r B tb g4 g5 xs m (vs.set i u) (w.setCell ⟨g5, i, none⟩ u) :=
  ⟨h.rd.set n5.1 n5.2.2, ButS.box ButS.one (fun e => n5.2.1 e.symm) h.bx, ButS.box ButS.one n4 h.b4, h.b5.setAt u hi, h.bt.set_ (p := ⟨g5, i, none⟩) (.inl h5) u⟩
theorem TkI.own (h : TkI W0 r B tb g4 g5 xs m vs w) {v : Value} (hb : ButS (fun k => v.ownBlock = some k) w w') (hlo : ∀ g, v.ownBlock = some g → g5 + 1 ≤ g) (h4 : g4 ≤ g5) (hr : r ≤ g5) (hB : B ≤ g5) (ht : tb ≤ g5) (h5 : W0.heap.size ≤ g5) : TkI W0 r B tb g4 g5 xs m vs w' := by
  have hn : ∀ g, g ≤ g5 → ¬ v.ownBlock = some g := fun g hg e => by have := hlo g e; omega
  obtain ⟨lr, lB, _⟩ := h.rd.lt
  have a1 := hb.at_ r lr (hn r hr)
  have a2 := hb.at_ B lB (hn B hB)
  exact ⟨h.rd.keep hb.size a1.1 a2.1 a1.2.1, hb.box (hn tb ht) h.bx, hb.box (hn g4 h4) h.b4, hb.box (hn g5 (Nat.le_refl _)) h.b5, h.bt.over hb fun i hi => .inr (by have := hlo i hi; omega)⟩
end
theorem Exs.length_nodes (l : List Ex) : l.length ≤ Exs.nodes l := by
  induction l with
  | nil => simp
  | cons e l ih => simp only [Exs.nodes, List.length_cons]; have := Exs.nodes_pos e; omega
theorem Exs.put_drop {l : List Ex} {i : Nat} (hi : i < l.length) : Exs.put (l.drop i) = l[i].put ++ Exs.put (l.drop (i + 1)) := by
  rw [List.drop_eq_getElem_cons hi]; simp only [Exs.put]
theorem Exs.plain_take {l : List Ex} {i : Nat} (hi : i < l.length) : Exs.plain (l.take (i + 1)) = Exs.plain (l.take i) ++ [l[i].plain] := by
  rw [Exs.plain_map, Exs.plain_map, List.take_add_one, List.getElem?_eq_getElem hi, List.map_append]; rfl
theorem OwnX.lt {w : World} {base : Nat} {v : Value} {l : List Ex} (h : OwnX w base v l) {g : Nat} (hg : v.ownBlock = some g) : g < w.heap.size ∧ base ≤ g := by
  obtain ⟨ss, _, h2, _⟩ := h; exact owns_lt h2 hg
theorem TkI.done {W0 w : World} {r B tb g4 g5 : Nat} {xs : List Nat} {m : Int} {vs : List Value} (h : TkI W0 r B tb g4 g5 xs m vs w) (u0 u1 u2 u3 u4 u5 u6 u7 : Value) (n4 : g4 ≠ r ∧ g4 ≠ tb ∧ g4 ≠ B) (h4 : W0.heap.size ≤ g4) {w' : World}
    (hw : w' = (((((((w.setCell ⟨g4, 0, none⟩ u0).setCell ⟨g4, 1, none⟩ u1).setCell ⟨g4, 2, none⟩ u2).setCell ⟨g4, 3, none⟩ u3).setCell ⟨g4, 4, none⟩ u4).setCell ⟨g4, 5, none⟩ u5).setCell ⟨g4, 6, none⟩ u6).setCell ⟨g4, 7, none⟩ u7) :
    BoxAt w' g4 [u0, u1, u2, u3, u4, u5, u6, u7] ∧ Rd w' r B xs ∧ BoxAt w' tb [.pointer (some ⟨r, 0, none⟩), .int .i64 m] ∧ ButS (TkM r tb) W0 w' ∧ ButS (fun k => k = g4) w w' := by
  have hb : ButS (fun k => k = g4) w w' := by
    rw [hw]; exact ((((((ButS.one.trans ButS.one).trans ButS.one).trans ButS.one).trans ButS.one).trans ButS.one).trans ButS.one).trans ButS.one
  refine ⟨?_, ?_, hb.box (fun e => n4.2.1 e.symm) h.bx, h.bt.over hb fun i hi => .inr (by omega), hb⟩
  · rw [hw]
    exact (((((((h.b4.setAt (i := 0) u0 (by simp [zeroEx, exCells])).setAt (i := 1) u1 (by simp [zeroEx, exCells])).setAt (i := 2) u2 (by simp [zeroEx, exCells])).setAt (i := 3) u3 (by simp [zeroEx, exCells])).setAt (i := 4) u4 (by simp [zeroEx, exCells])).setAt (i := 5) u5 (by simp [zeroEx, exCells])).setAt (i := 6) u6 (by simp [zeroEx, exCells])).setAt (i := 7) u7 (by simp [zeroEx, exCells])
  · obtain ⟨lr, lB, _⟩ := h.rd.lt
    have a1 := hb.at_ r lr (fun e => n4.1 e.symm)
    have a2 := hb.at_ B lB (fun e => n4.2.2 e.symm)
    exact h.rd.keep hb.size a1.1 a2.1 a1.2.1
theorem OwnX.form {w : World} {base : Nat} {v : Value} {l : List Ex} (h : OwnX w base v l) : ∃ A cap, v = .slice A l.length cap := by
  obtain ⟨ss, _, h2, _⟩ := h
  rcases h2.2 with ⟨rfl, h0⟩ | ⟨g, cap, cur, rfl, _⟩
  · exact ⟨none, 0, by rw [h0]⟩
  · exact ⟨_, cap, rfl⟩
theorem plain_null {k r c : Int} {v : Val} (hv : v.Ok) (h : fieldsOk k r c v = true) (hk : k ≠ 2) : v.plain = Val.null := by
  have h1 := (fieldsOk_plain hv h).1
  have hf := Val.plain_flat hv
  unfold fieldsOk at h1
  split at h1
  · cases h1
  · simp only [Bool.and_eq_true, Bool.or_eq_true, beq_iff_eq] at h1
    have h2 : v.plain.kind = 0 := by rcases h1.2 with h3 | h3; exact absurd h3 hk; exact h3
    generalize v.plain = p at *
    cases hf <;> simp_all [Val.null]
theorem fieldsOk_rc {k r c : Int} {v : Val} (hq : fieldsOk k r c v = true) : (k ≠ 1 → r = 0 ∧ c = 0) ∧ 0 ≤ r ∧ r ≤ 31 ∧ 0 ≤ c ∧ c ≤ 31 := by
  unfold fieldsOk at hq
  split at hq
  · cases hq
  · rename_i h
    simp only [inRel, Bool.and_eq_false_iff, decide_eq_false_iff_not] at h
    refine ⟨fun hk => ?_, ?_, ?_, ?_, ?_⟩ <;> omega
set_option maxRecDepth 100000 in
set_option maxHeartbeats 4000000 in
theorem take_rd (r B tb : Nat) (nt : tb ≠ r ∧ tb ≠ B) : ∀ (e : Ex) (d m : Nat) (rest : List Nat) (w : World), e.Oks → e.wf = true → d + e.high ≤ 25 → e.nodes ≤ m → m ≤ 1000 → Rd w r B (e.put ++ rest) →
    BoxAt w tb [.pointer (some ⟨r, 0, none⟩), .int .i64 (m : Int)] →
    Calls Try.prog 60 #[.pointer (some ⟨tb, 0, none⟩), .int .i64 (d : Int)] w fun ev w' => ∃ s, ev = .returned (.agg (e.plain.cells s).toArray) ∧ Ex.In (only w' (from_ w.heap.size)) e.plain s ∧ Rd w' r B rest ∧
      BoxAt w' tb [.pointer (some ⟨r, 0, none⟩), .int .i64 ((m - e.nodes : Nat) : Int)] ∧ ButS (TkM r tb) w w' := by
  intro e
  induction e using Ex.ind with
  | h k r0 c v l ih =>
    intro d m rest w hok hwf hd hm hm1 hrd hbx
    simp only [Ex.Oks] at hok
    simp only [Ex.wf, Bool.and_eq_true, decide_eq_true_eq] at hwf
    obtain ⟨⟨hk0, hf⟩, hl⟩ := hwf
    obtain ⟨hv, hos⟩ := hok
    rw [Exs.wf_iff] at hl; rw [Exs.oks_iff] at hos
    simp only [Ex.nodes, Ex.high, Ex.put, Ex.plain] at hd hm hrd ⊢
    have hk13 : 1 ≤ k ∧ k ≤ 13 := by
      unfold kidsOf at hk0
      split at hk0
      · omega
      · split at hk0
        · omega
        · split at hk0
          · omega
          · omega
    obtain ⟨K, rfl⟩ := Int.eq_ofNat_of_zero_le (a := k) (by omega)
    have ltr := hrd.lt.1
    have ltB := hrd.lt.2.1
    have lts := hbx.lt
    have IH := Lib.hid ih; have HL := Lib.hid hl; have HOS := Lib.hid hos; have HV := Lib.hid hv; have HF := Lib.hid hf; have HK := Lib.hid hk0
    simp only [Int.toNat_natCast] at hrd
    have HRD := Lib.hid hrd; have HBX := Lib.hid hbx
    obtain ⟨t0, t1, tz⟩ := hbx.cells; clear tz
    simp only [Nat.zero_add, Nat.reduceAdd] at t0 t1
    have tf0 := hbx.free 0; have tf1 := hbx.free 1
    have HKN := Lib.hid hk13
    have HD := Lib.hid hd; have HM := Lib.hid hm
    clear ih hl hos hv hf hrd hbx hd
    go_enter Try.func60, Try.ntmps60
    go_upto_region 2 with (first
      | (go_at_call 79; refine (byte_rd r B K _ _ (HRD.out.ext ((Ext.refl _).alloc _)) (by have := HKN.out; omega)).mono ?_; rintro ev w1 ⟨rfl, hr1, hb1⟩))
    have hs1 := hb1.size
    simp at hs1
    have n4 : w.heap.size ≠ r ∧ w.heap.size ≠ tb := ⟨by omega, by omega⟩
    have n5 : w1.heap.size ≠ r ∧ w1.heap.size ≠ tb ∧ w1.heap.size ≠ B := ⟨by omega, by omega, by omega⟩
    have n45 : w.heap.size ≠ w1.heap.size := by omega
    have h5 : w.heap.size ≤ w1.heap.size := by omega
    have hbx1 : BoxAt w1 tb [.pointer (some ⟨r, 0, none⟩), .int .i64 (m : Int)] := But.box hb1 nt.1 (HBX.out.ext ((Ext.refl _).alloc _))
    have hb41 : BoxAt w1 w.heap.size zeroEx := But.box hb1 n4.1 (BoxAt.new rfl rfl)
    have hbt1 : ButS (TkM r tb) w w1 := ((ButS.refl _ _).alloc _).trans (.of_but hb1 (.inl rfl))
    have hi0 : TkI w r B tb w.heap.size w1.heap.size ((headPut (K : Int) r0 c v ++ Exs.put l).append rest) (m : Int) (exCells (K : Int) 0 0 Val.null (.slice none 0 0)) (w1.alloc (.cells #[.int .i64 (K : Int), .int .i64 0, .int .i64 0, .int .i64 0, .int .i64 0, .float .f64 0, .string ⟨#[]⟩, .slice none 0 0] 27)) :=
      ⟨hr1.ext ((Ext.refl _).alloc _), hbx1.ext ((Ext.refl _).alloc _), hb41.ext ((Ext.refl _).alloc _), BoxAt.new rfl rfl, hbt1.alloc _⟩
    clear hr1 hb1 hbx1 hb41 hbt1 hs1 HRD HBX t0 t1 tf0 tf1
    generalize w1.alloc (.cells #[.int .i64 (K : Int), .int .i64 0, .int .i64 0, .int .i64 0, .int .i64 0, .float .f64 0, .string ⟨#[]⟩, .slice none 0 0] 27) = W at *
    generalize w1.heap.size = g5 at *
    generalize hg4 : w.heap.size = g4 at *
    have h5w : w.heap.size ≤ g5 := by omega
    clear w1
    obtain ⟨t0, t1, tz⟩ := hi0.bx.cells; clear tz
    have a0 := hi0.b5.cells.1
    have tf1 := hi0.bx.free 1
    simp only [Nat.zero_add, Nat.reduceAdd] at t0 t1 a0
    have hm0 : (0 : Int) ≤ (m : Int) - 1 := by have := HM.out; omega
    have hm2 : (m : Int) ≤ 1000 := by omega
    have hd2 : (d : Int) ≤ 24 := by have := HD.out; omega
    have HI0 := Lib.hid hi0; clear hi0
    have HKO := Lib.hid (fun w => kids_of (K : Int) w)
    rw [hk0] at HKO
    clear hk0 hk13
    go_upto_region 4 with (first
      | (go_at_call 109; refine (HKO.out _).mono ?_; rintro ev wx ⟨rfl, rfl⟩))
    have hi1 := HI0.out.setT ((m : Int) - 1) nt n4 ⟨n5.1, n5.2.1⟩
    clear HI0 t0 t1 tf1 a0 HKO
    generalize W.setCell ⟨tb, 1, none⟩ (.int .i64 ((m : Int) - 1)) = W1 at *
    clear W
    obtain ⟨t0, t1, tz⟩ := hi1.bx.cells; clear tz
    have a0 := hi1.b5.cells.1
    simp only [Nat.zero_add, Nat.reduceAdd] at t0 t1 a0
    have HI := Lib.hid hi1; clear hi1
    have hd3 : ¬ ((24 : Int) < (d : Int)) := by omega
    have hm3 : ¬ ((m : Int) - 1 < 0) := by omega
    have hl3 : ¬ ((l.length : Int) < 0) := by omega
    go_upto_block 1 with (first
      | (go_at_call 83; refine (err_of r B _ _ HI.out.rd).mono ?_; rintro ev wx ⟨rfl, rfl⟩))
    go_cut [] (fun wx => TkI w r B tb g4 g5 (Exs.put l ++ rest) ((m : Int) - 1) (exCells (K : Int) r0 c v.plain (.slice none 0 0)) wx)
    case first =>
      clear IH HL HOS HD HM t0 t1 a0
      have hn5 := n5.2.1
      have hi := HI.out
      by_cases k1 : K = 1
      · subst k1
        obtain ⟨_, hr0, hr1, hc0, hc1⟩ := fieldsOk_rc HF.out
        have hpn := plain_null HV.out HF.out (by decide)
        obtain ⟨R, rfl⟩ := Int.eq_ofNat_of_zero_le hr0
        obtain ⟨C, rfl⟩ := Int.eq_ofNat_of_zero_le hc0
        have hi' : TkI w r B tb g4 g5 (putUint R ++ (putUint C ++ (Exs.put l ++ rest))) ((m : Int) - 1) (exCells (1 : Nat) 0 0 Val.null (.slice none 0 0)) W1 := by
          have h := hi
          simp only [headPut, Int.toNat_natCast] at h
          simpa [List.append_assoc] using h
        have HPN := Lib.hid hpn
        have HI := Lib.hid hi'; clear hi hi' hpn
        obtain ⟨t0, t1, tz⟩ := HI.out.bx.cells; clear tz
        simp only [Nat.zero_add, Nat.reduceAdd] at t0 t1
        have hR31 : (R : Int) ≤ 31 := hr1
        have hC31 : (C : Int) ≤ 31 := hc1
        go_upto_region 12 with (first
          | (go_at_call 112; refine (uint_rd r B R 31 _ _ HI.out.rd (by omega) (by omega)).mono ?_; rintro ev w2 ⟨rfl, hr2, hb2⟩; have HI2 := Lib.hid (HI.out.but hb2 hr2 nt.1 n4 ⟨n5.1, n5.2.1⟩); have f51 := HI2.out.b5.free 1; obtain ⟨p0, p1, p2, pz⟩ := HI2.out.b5.cells; clear pz; simp only [Nat.zero_add, Nat.reduceAdd] at p0 p1 p2; clear hr2 hb2))
        have hi3 := HI2.out.set5 (i := 1) (.int .i64 (R : Int)) (by simp [exCells]) n45 n5 h5w
        clear p0 p1 p2 f51 HI2 t0 t1 HI
        generalize w2.setCell ⟨g5, 1, none⟩ (.int .i64 (R : Int)) = W3 at *
        clear w2
        obtain ⟨t0, t1, tz⟩ := hi3.bx.cells; clear tz
        simp only [Nat.zero_add, Nat.reduceAdd] at t0 t1
        have HI3 := Lib.hid hi3; clear hi3
        go_wp2_with (first
          | (go_at_call 112; refine (uint_rd r B C 31 _ _ HI3.out.rd (by omega) (by omega)).mono ?_; rintro ev w4 ⟨rfl, hr4, hb4⟩; have HI4 := Lib.hid (HI3.out.but hb4 hr4 nt.1 n4 ⟨n5.1, n5.2.1⟩); have f52 := HI4.out.b5.free 2; obtain ⟨p0, p1, p2, pz⟩ := HI4.out.b5.cells; clear pz; simp only [Nat.zero_add, Nat.reduceAdd] at p0 p1 p2; clear hr4 hb4))
        go_meet
        rw [HPN.out]
        exact HI4.out.set5 (i := 2) (.int .i64 (C : Int)) (by simp [exCells]) n45 n5 h5w
      · obtain ⟨hrc, _⟩ := fieldsOk_rc HF.out
        obtain ⟨rfl, rfl⟩ := hrc (by omega)
        by_cases k2 : K = 2
        · subst k2
          have hi' : TkI w r B tb g4 g5 (putV v ++ (Exs.put l ++ rest)) ((m : Int) - 1) (exCells (2 : Nat) 0 0 Val.null (.slice none 0 0)) W1 := by
            have h := hi
            simp only [headPut] at h
            simpa [List.append_assoc] using h
          have HI := Lib.hid hi'; clear hi hi'
          obtain ⟨t0, t1, tz⟩ := HI.out.bx.cells; clear tz
          simp only [Nat.zero_add, Nat.reduceAdd] at t0 t1
          have hmust := Lib.hid (fun w => must_ok v.plain w)
          unfold Val.enc at hmust
          go_wp2_with (first
            | (go_at_call 26; refine (takeV_rd r B v _ _ HV.out HI.out.rd).mono ?_; rintro ev w2 ⟨rfl, hr2, hb2⟩; have HI2 := Lib.hid (HI.out.but hb2 hr2 nt.1 n4 ⟨n5.1, n5.2.1⟩); clear hr2 hb2)
            | (go_at_call 113; refine (hmust.out _).mono ?_; rintro ev w3 ⟨rfl, hb3⟩; have HI3 := Lib.hid (HI2.out.ext hb3); have f53 := HI3.out.b5.free 3; have f54 := HI3.out.b5.free 4; have f55 := HI3.out.b5.free 5; have f56 := HI3.out.b5.free 6; obtain ⟨p0, p1, p2, p3, p4, p5, p6, pz⟩ := HI3.out.b5.cells; clear pz hb3; simp only [Nat.zero_add, Nat.reduceAdd] at p0 p1 p2 p3 p4 p5 p6))
          go_meet
          exact (((HI3.out.set5 (i := 3) _ (by simp [exCells]) n45 n5 h5w).set5 (i := 4) _ (by simp [exCells]) n45 n5 h5w).set5 (i := 5) _ (by simp [exCells]) n45 n5 h5w).set5 (i := 6) _ (by simp [exCells]) n45 n5 h5w
        · have hpn := plain_null HV.out HF.out (by omega)
          have hi' : TkI w r B tb g4 g5 (Exs.put l ++ rest) ((m : Int) - 1) (exCells (K : Int) 0 0 Val.null (.slice none 0 0)) W1 := by
            have h := hi
            have h1 : ¬ (K : Int) = 1 := by omega
            have h2 : ¬ (K : Int) = 2 := by omega
            simp only [headPut, if_neg h1, if_neg h2] at h
            simpa using h
          have HPN := Lib.hid hpn; have HI := Lib.hid hi'; clear hi hi' hpn
          have h1 : ¬ (K : Int) = 1 := by omega
          have h2 : ¬ (K : Int) = 2 := by omega
          go_wp2_with fail
          go_meet
          rw [HPN.out]
          exact HI.out
    case rest =>
      have HRC : Hid (I64 (K : Int) ∧ I64 r0 ∧ I64 c ∧ v.plain.Ok) := Lib.hid (by have h1 := HKN.out; obtain ⟨_, h2⟩ := fieldsOk_rc HF.out; refine ⟨?_, ?_, ?_, (Val.plain_flat HV.out).ok⟩ <;> unfold I64 <;> omega)
      clear HI t0 t1 a0 HF HK HKN
      have HI := Lib.hid hcut; clear hcut
      obtain ⟨t0, t1, tz⟩ := HI.out.bx.cells; clear tz
      simp only [Nat.zero_add, Nat.reduceAdd] at t0 t1
      have hc0 := Lib.hid (OwnX.nil wc (g5 + 1))
      go_wp2_with (go_at_call 83; refine (err_of r B _ _ HI.out.rd).mono ?_; rintro ev wx ⟨rfl, rfl⟩)
      clear t0 t1
      go_loopw [90] (fun y wr => ∃ (i : Nat) (v5 : Value), y = .int .i64 (i : Int) ∧ i ≤ l.length ∧ OwnX wr (g5 + 1) v5 (Exs.plain (l.take i)) ∧ TkI w r B tb g4 g5 (Exs.put (l.drop i) ++ rest) ((m : Int) - 1 - (Exs.nodes (l.take i) : Int)) (exCells (K : Int) r0 c v.plain v5) wr) (fun y _ => l.length - (intOf y).toNat)
      case atStart => exact ⟨0, _, rfl, by omega, hc0.out, by simpa [Exs.nodes] using HI.out⟩
      case round =>
        rename_i hrel
        obtain ⟨i, v5, rfl, hi, hown, htk⟩ := hrel
        have HTK := Lib.hid htk; have HOWN := Lib.hid hown; clear htk hown HI hc0
        have hln := Exs.length_nodes l
        by_cases hlt : i < l.length
        · have hlt' : (i : Int) < (l.length : Int) := by omega
          have hnt := Exs.nodes_take hlt
          have hnl := Exs.nodes_take_le l (i + 1)
          have hhi := Exs.high_le (List.getElem_mem hlt)
          have hex : ((m : Int) - 1 - (Exs.nodes (l.take i) : Int)) = ((m - 1 - Exs.nodes (l.take i) : Nat) : Int) := by omega
          have hey : ((m - 1 - Exs.nodes (l.take i) - l[i].nodes : Nat) : Int) = ((m : Int) - 1 - (Exs.nodes (l.take (i + 1)) : Int)) := by omega
          rw [Exs.put_drop hlt, List.append_assoc] at HTK
          have hcall := Lib.hid (fun u (hu : Ext wr u) => IH.out l[i] (List.getElem_mem hlt) (d + 1) (m - 1 - Exs.nodes (l.take i)) (Exs.put (l.drop (i + 1)) ++ rest) u (HOS.out _ (List.getElem_mem hlt)) (HL.out _ (List.getElem_mem hlt)) (by have := HD.out; omega) (by omega) (by omega) (HTK.out.ext hu).rd (by rw [← hex]; exact (HTK.out.ext hu).bx))
          have HEY := Lib.hid hey; have HPT := Lib.hid (Exs.plain_take hlt)
          have hI : (i : Int) ≤ 1000 := by omega
          have hrg : r ≤ g5 := by omega
          have hBg : B ≤ g5 := by omega
          have htg : tb ≤ g5 := by omega
          have h4g : g4 ≤ g5 := by omega
          have hbw : g5 + 1 ≤ wr.heap.size := HTK.out.b5.lt
          have hTM : ∀ k, TkM r tb k → k < g5 + 1 := fun k hk => by rcases hk with rfl | rfl <;> omega
          have hlen : (Exs.plain (l.take i)).length ≤ 1000000000 := by rw [Exs.plain_length, List.length_take]; omega
          clear IH HOS HL hnt hnl hhi hex hey hln
          have hwd : IntKind.i64.wrap ((d : Int) + 1) = ((d + 1 : Nat) : Int) := by rw [IntKind.wrap_i64]; omega
          obtain ⟨p0, p1, p2, p3, p4, p5, p6, p7, pz⟩ := HTK.out.b5.cells; clear pz p0 p1 p2 p3 p4 p5 p6
          have f57 := HTK.out.b5.free 7
          simp only [Nat.zero_add, Nat.reduceAdd] at p7
          generalize l[i].plain = f at *
          unfold Ex.cells exCells at hcall
          go_upto_region 20 with fail
          go_region_law
            (first
              | (go_simp; go_at_call 60; (try rw [hwd]); (refine (hcall.out _ (by repeat (first | (with_reducible exact Ext.refl _) | (with_reducible refine Ext.set_ ?_ _ ?_; focus (first | (simp; done) | (simp; omega) | (simp at *; omega))) | (with_reducible refine Ext.alloc ?_ _) | (with_reducible refine Ext.drew ?_) | (with_reducible refine Ext.drewN ?_ _) | (with_reducible refine Ext.trans ?_ (by assumption))))).mono ?_); rintro ev w2 ⟨s2, rfl, hin2, hr2, hx2, hb2⟩; have hu2 := (ButS.of_ext (M := TkM r tb) (by repeat (first | (with_reducible exact Ext.refl _) | (with_reducible refine Ext.set_ ?_ _ ?_; focus (first | (simp; done) | (simp; omega) | (simp at *; omega))) | (with_reducible refine Ext.alloc ?_ _) | (with_reducible refine Ext.drew ?_) | (with_reducible refine Ext.drewN ?_ _) | (with_reducible refine Ext.trans ?_ (by assumption))) : Ext wr _)).trans hb2; have HTK2 := Lib.hid (HTK.out.buts hu2 hr2 hx2 n4 ⟨n5.1, n5.2.1⟩); have HOWN2 := Lib.hid (HOWN.out.buts hu2 hTM); obtain ⟨_, A2, cap2, rfl, _⟩ := (Ex.In.mk_inv hin2).2.2.2.2; have HIN2 := Lib.hid hin2; have HU2 := Lib.hid hu2; obtain ⟨q0, q1, q2, q3, q4, q5, q6, q7, qz⟩ := HTK2.out.b5.cells; clear qz q0 q1 q2 q3 q4 q5 q6 hin2 hr2 hx2 hb2 hu2; simp only [Nat.zero_add, Nat.reduceAdd] at q7; have q7b : w2.cell? ⟨g5, 7, none⟩ = some v5 := q7; have q7a : ∀ o, (w2.alloc o).cell? ⟨g5, 7, none⟩ = some v5 := (fun o => ((((Ext.refl w2).alloc o).at_ g5 HTK2.out.b5.lt).1 7).trans q7))
              | (refine step_addX (by rfl) (.tmp 93) (.tmp 98) (by rfl) (by rfl) (HOWN2.out.buts (M := TkM r tb) (ButS.of_ext (by repeat (first | (with_reducible exact Ext.refl _) | (with_reducible refine Ext.set_ ?_ _ ?_; focus (first | (simp; done) | (simp; omega) | (simp at *; omega))) | (with_reducible refine Ext.alloc ?_ _) | (with_reducible refine Ext.drew ?_) | (with_reducible refine Ext.drewN ?_ _) | (with_reducible refine Ext.trans ?_ (by assumption))))) hTM) f (.slice A2 f.kids.length cap2) (by rfl) (heap_alloc_new _ _) (b := wr.heap.size) (Ex.In.from_ext HIN2.out (M := fun _ => False) (ButS.of_ext (by repeat (first | (with_reducible exact Ext.refl _) | (with_reducible refine Ext.set_ ?_ _ ?_; focus (first | (simp; done) | (simp; omega) | (simp at *; omega))) | (with_reducible refine Ext.alloc ?_ _) | (with_reducible refine Ext.drew ?_) | (with_reducible refine Ext.drewN ?_ _) | (with_reducible refine Ext.trans ?_ (by assumption))))) (fun _ h => h.elim)) hbw (fun g hg => (HOWN.out.lt hg).1) hlen (Nat.le_trans hbw (Nat.le_trans HU2.out.size (by simp))) ?_; intro g6 cap6 w5 ho5 hb5; have HTK5 := Lib.hid ((HTK2.out.ext (by repeat (first | (with_reducible exact Ext.refl _) | (with_reducible refine Ext.set_ ?_ _ ?_; focus (first | (simp; done) | (simp; omega) | (simp at *; omega))) | (with_reducible refine Ext.alloc ?_ _) | (with_reducible refine Ext.drew ?_) | (with_reducible refine Ext.drewN ?_ _) | (with_reducible refine Ext.trans ?_ (by assumption))))).own hb5 (fun g hg => (HOWN.out.lt hg).2) h4g hrg hBg htg h5w); have HO5 := Lib.hid ho5; have f5 := HTK5.out.b5.free 7; obtain ⟨s0, s1, s2, s3, s4, s5, s6, s7, sz⟩ := HTK5.out.b5.cells; clear sz s0 s1 s2 s3 s4 s5 s6 ho5 hb5; simp only [Nat.zero_add, Nat.reduceAdd] at s7))
          all_goals
            go_wp2_with fail
            have hlen2 : (Exs.plain (l.take i)).length = i := by rw [Exs.plain_length, List.length_take]; omega
            have ho5 := HO5.out
            rw [hlen2] at ho5
            try simp only [hlen2]
            refine ⟨⟨i + 1, .slice (some ⟨g6, 0, none⟩) (i + 1) cap6, by simp, by omega, ?_, ?_⟩, by simp only [intOf]; omega⟩
            · rw [HPT.out]
              exact ho5.buts ButS.one (fun k hk => by subst hk; omega)
            · rw [← HEY.out]
              exact HTK5.out.set5 (i := 7) _ (by simp [exCells]) n45 n5 h5w
        · have hlt' : ¬ ((i : Int) < (l.length : Int)) := by omega
          obtain rfl : i = l.length := by omega
          rw [List.drop_length] at HTK
          rw [List.take_length] at HTK HOWN
          simp only [Exs.put, List.nil_append] at HTK
          have hex : ((m : Int) - 1 - (Exs.nodes l : Int)) = ((m - (1 + Exs.nodes l) : Nat) : Int) := by omega
          rw [hex] at HTK
          clear hex hln
          obtain ⟨A5, cap5, rfl⟩ := HOWN.out.form
          obtain ⟨p0, p1, p2, p3, p4, p5, p6, p7, pz⟩ := HTK.out.b5.cells
          obtain ⟨z0, z1, z2, z3, z4, z5, z6, z7, zz⟩ := HTK.out.b4.cells
          have f0 := HTK.out.b4.free
          clear pz zz
          simp only [Nat.zero_add, Nat.reduceAdd] at p0 p1 p2 p3 p4 p5 p6 p7 z0 z1 z2 z3 z4 z5 z6 z7
          go_wp2_with fail
          have hD := HTK.out.done (.int .i64 (K : Int)) (.int .i64 r0) (.int .i64 c) (.int .i64 v.plain.kind) (.int .i64 v.plain.int) (.float .f64 v.plain.flt) (.string v.plain.text) (.slice A5 (Exs.plain l).length cap5) ⟨n4.1, n4.2, by omega⟩ (by omega) rfl
          refine back_cell rfl (Ex.cells (Ex.mk (K : Int) r0 c v.plain (Exs.plain l)) (.slice A5 (Exs.plain l).length cap5)) rfl agg_ex rfl hD.1.cells ⟨_, rfl, ?_, hD.2.1, hD.2.2.1, hD.2.2.2.1⟩
          obtain ⟨i1, i2, i3, i4⟩ := HRC.out
          have hx := (HOWN.out.buts hD.2.2.2.2 (fun k hk => by omega)).exsIn
          refine Ex.In.of_cells (only_cell (p := from_ (g5 + 1)) fun k hk hp => ⟨?_, rfl⟩) _ _ ?_
          · simp only [from_, decide_eq_true_eq] at hp ⊢; omega
          · simp only [Ex.In]
            exact ⟨i1, i2, i3, i4, hx⟩
end Go.Proofs.Ytlcdjaclahhdnaa
namespace Go.Proofs.Ytlcdjaclahhdnaa
open Go.RowKit
set_option linter.unusedSimpArgs false
set_option linter.unusedVariables false

theorem nameW {P : Program} {c : Code} {Q : Exit → Act → World → Prop} {a : Act} {w : World} (F : World → Prop) (hF : F w) (h : ∀ u, F u → c.wp P Q a u) : c.wp P Q a w := h w hF
theorem exc_one {k r c : Int} {v : Val} {A : Option Addr} {n cap : Nat} : ∀ u ∈ exCells k r c v (.slice A n cap), u.oneCell' = true := by
  intro u hu
  simp only [exCells, List.mem_cons, List.not_mem_nil, or_false] at hu
  rcases hu with rfl | rfl | rfl | rfl | rfl | rfl | rfl | rfl <;> rfl
set_option maxRecDepth 100000 in
set_option maxHeartbeats 1000000 in
/-- expr.guarded around expr.Take's closure, as guarded_take; the closure is called in a world that is greater. -/
theorem guarded_take2 (M : Nat → Prop) (cap : Array Value) (w : World) (S : World → Prop) (hM : ∀ k, M k → k < w.heap.size)
    (hcall : Hid (∀ w', Ext w w' → w.heap.size < w'.heap.size → Calls Try.prog 59 cap w' fun e u => e = .returned (.tuple #[]) ∧ ButS M w' u ∧ S u)) :
    Calls Try.prog 58 #[.func (.func 59) #[] cap] w fun e w' => e = .returned (.int .i64 0) ∧ (∃ u, S u ∧ But w.heap.size u w') ∧ ButS M w w' := by
  have hmf : ∀ (fn : Fn) (first cap : Array Value) (w : World), (Instr.makeFunc fn first cap).run Try.prog w = .ok (.func fn first cap) w := fun _ _ _ _ => rfl
  have h0 : BoxAt (w.alloc (.cells #[.int .i64 0] 35)) w.heap.size [.int .i64 0] := BoxAt.new rfl rfl
  have H0 := Lib.hid h0; clear h0
  have hng : ¬ M w.heap.size := fun h => by have := hM _ h; omega
  have HNG := Lib.hid hng; have HM := Lib.hid hM; clear hng hM
  go_enter_defers Try.func58, Try.ntmps58
  go_wp2_with (go_at_call 59; refine (hcall.out _ (by repeat (first | (with_reducible exact Ext.refl _) | (with_reducible refine Ext.set_ ?_ _ ?_; focus (first | (simp; done) | (simp; omega) | (simp at *; omega))) | (with_reducible refine Ext.alloc ?_ _) | (with_reducible refine Ext.drew ?_) | (with_reducible refine Ext.drewN ?_ _) | (with_reducible refine Ext.trans ?_ (by assumption)))) (by simp)).mono ?_; rintro e u ⟨rfl, hb, hs⟩; have HB := Lib.hid (ButS.box hb HNG.out H0.out); have HBU := Lib.hid hb; have HS := Lib.hid hs; obtain ⟨c0, f0, l0⟩ := hb.at_ w.heap.size (by simp) HNG.out; clear hb hs)
  have HB1 := Lib.hid (HB.out.set1 (v := .int .i64 0))
  have hc := HB1.out.cells.1
  refine leaves_cons (f := 111) (args := #[.pointer (some ⟨w.heap.size, 0, none⟩)]) (by simp) (by simp [go_sem]) ?_
  refine (catch_idle w.heap.size _).mono ?_
  rintro e u' w'' ⟨rfl, rfl, rfl⟩
  have h1 : But w.heap.size u (u.setCell ⟨w.heap.size, 0, none⟩ (.int .i64 0)) := But.set_ (p := ⟨w.heap.size, 0, none⟩) (.inr rfl) _ (But.refl _ u)
  have h2 : ButS M w (u.setCell ⟨w.heap.size, 0, none⟩ (.int .i64 0)) := ButS.set_ (p := ⟨w.heap.size, 0, none⟩) (.inl (Nat.le_refl _)) _ ((ButS.of_ext ((Ext.refl w).alloc _)).trans HBU.out)
  have h3 : ∃ x, S x ∧ But w.heap.size x (u.setCell ⟨w.heap.size, 0, none⟩ (.int .i64 0)) := ⟨u, HS.out, h1⟩
  simp [Leaves, settle, results, Try.results58, go_sem, hc, h2, h3]

/-- What lies behind expr.Take's closure. -/
def TakenE (r B ge b : Nat) (e : Ex) (rest : List Nat) (u : World) : Prop :=
  ∃ A n cap, BoxAt u ge (e.cells (.slice A n cap)) ∧ Ex.In (only u (from_ b)) e (.slice A n cap) ∧ Rd u r B rest
theorem TakenE.but {r B ge b g : Nat} {e : Ex} {rest : List Nat} {u w : World} (h : TakenE r B ge b e rest u) (hb : But g u w) (h1 : ge ≠ g) (h2 : g < b) (h3 : r ≠ g) (h4 : B ≠ g) : TakenE r B ge b e rest w := by
  obtain ⟨A, n, cap, q1, q2, q3⟩ := h
  obtain ⟨l1, l2, _⟩ := q3.lt
  exact ⟨A, n, cap, But.box hb h1 q1, q2.from_ext (M := fun k => k = g) (ButS.of_but hb rfl) (fun k hk => by subst hk; exact h2), q3.keep hb.size (hb.at_ r ⟨l1, h3⟩).1 (hb.at_ B ⟨l2, h4⟩).1 (hb.at_ r ⟨l1, h3⟩).2.1⟩
set_option maxRecDepth 100000 in
set_option maxHeartbeats 4000000 in
theorem take1_of (r B tb tv ge b : Nat) (e : Ex) (rest : List Nat) (vs : List Value) (w : World) (hok : e.Oks) (hwf : e.wf = true) (hh : 1 + e.high ≤ 25) (hn : e.nodes ≤ 400) (hrd : Rd w r B (e.put ++ rest))
    (hbt : BoxAt w tb [.pointer (some ⟨r, 0, none⟩), .int .i64 400]) (hbv : w.cell? ⟨tv, 0, none⟩ = some (.pointer (some ⟨tb, 0, none⟩))) (hbe : BoxAt w ge vs) (hvs : vs.length = 8) (nt : tb ≠ r ∧ tb ≠ B) (ng : ge ≠ r ∧ ge ≠ tb ∧ ge ≠ B) (hb : b ≤ w.heap.size) (hgb : ge < b) :
    Calls Try.prog 59 #[.pointer (some ⟨tv, 0, none⟩), .pointer (some ⟨ge, 0, none⟩)] w fun ev u => ev = .returned (.tuple #[]) ∧ ButS (fun k => k = r ∨ k = tb ∨ k = ge) w u ∧ TakenE r B ge b e.plain rest u := by
  have HC : Hid (Calls Try.prog 60 #[.pointer (some ⟨tb, 0, none⟩), .int .i64 1] w fun ev w' => ∃ s, ev = .returned (.agg (e.plain.cells s).toArray) ∧ Ex.In (only w' (from_ w.heap.size)) e.plain s ∧ Rd w' r B rest ∧
      BoxAt w' tb [.pointer (some ⟨r, 0, none⟩), .int .i64 ((400 - e.nodes : Nat) : Int)] ∧ ButS (TkM r tb) w w') := Lib.hid (take_rd r B tb nt e 1 400 rest w hok hwf hh hn (by decide) hrd hbt)
  have HBE := Lib.hid hbe
  have hl := hbe.lt
  clear hok hwf hh hn hrd hbt hbe
  generalize e.plain = f at *
  unfold Ex.cells exCells at *
  go_enter Try.func59, Try.ntmps59
  go_wp2_with (first
    | (go_at_call 60; refine HC.out.mono ?_; rintro ev w1 ⟨s1, rfl, hin, hr1, hx1, hb1⟩; obtain ⟨-, A1, cap1, rfl, -⟩ := (Ex.In.mk_inv hin).2.2.2.2; have HIN := Lib.hid hin; have HR1 := Lib.hid hr1; have HB1 := Lib.hid hb1; clear hin hr1 hx1 hb1)
    | (refine wpList_storeA (vs' := exCells f.kind f.rel f.col f.const (.slice A1 f.kids.length cap1)) exc_one (ButS.box HB1.out (by unfold TkM; omega) HBE.out) size_ex (by rw [hvs]; rfl) rfl (.tmp 1) _ rfl rfl rfl ?_; intro w3 hb1 hb2))
  go_end0
  have h1 := HB1.out
  have h2 : ButS (fun k => k = r ∨ k = tb ∨ k = ge) w w3 := by
    refine ButS.trans ⟨h1.os, h1.tape, h1.output, h1.size, fun k hk hn => h1.block k hk fun h => hn (by rcases h with h | h <;> omega)⟩ (ButS.of_but hb2 (.inr (.inr rfl)))
  refine ⟨rfl, h2, A1, _, cap1, hb1, ?_, ?_⟩
  · exact (Ex.In.of_cells (only_cell fun k hk hp => ⟨by simp only [from_, decide_eq_true_eq] at hp ⊢; omega, rfl⟩) _ _ HIN.out : Ex.In (only w1 (from_ b)) f (.slice A1 f.kids.length cap1)).from_ext (M := fun k => k = ge) (ButS.of_but hb2 rfl) (fun k hk => by subst hk; exact hgb)
  · have q3 := HR1.out
    obtain ⟨l1, l2, -⟩ := q3.lt
    exact q3.keep hb2.size (hb2.at_ r ⟨l1, fun e => ng.1 e.symm⟩).1 (hb2.at_ B ⟨l2, fun e => ng.2.2 e.symm⟩).1 (hb2.at_ r ⟨l1, fun e => ng.1 e.symm⟩).2.1
set_option maxRecDepth 100000 in
set_option maxHeartbeats 4000000 in
theorem take_of_ex (r B : Nat) (e : Ex) (rest : List Nat) (w : World) (hok : e.Oks) (hwf : e.wf = true) (hh : 1 + e.high ≤ 25) (hn : e.nodes ≤ 400) (hrd : Rd w r B (e.put ++ rest)) :
    Calls Try.prog 18 #[.pointer (some ⟨r, 0, none⟩)] w fun ev w' => ∃ A n cap, ev = .returned (.tuple #[.agg (e.plain.cells (.slice A n cap)).toArray, .int .i64 0]) ∧ Ex.In w' e.plain (.slice A n cap) ∧ Rd w' r B rest ∧ ButS (fun k => k = r) w w' := by
  obtain ⟨l1, l2, l3⟩ := hrd.lt
  have HRD := Lib.hid hrd
  have HT : Hid (∀ (W u : World) (vs : List Value), W.heap.size < u.heap.size → Rd u r B (e.put ++ rest) → BoxAt u (w.heap.size + 1) [.pointer (some ⟨r, 0, none⟩), .int .i64 400] → u.cell? ⟨w.heap.size + 2, 0, none⟩ = some (.pointer (some ⟨w.heap.size + 1, 0, none⟩)) → BoxAt u w.heap.size vs → vs.length = 8 → w.heap.size < W.heap.size →
      Calls Try.prog 59 #[.pointer (some ⟨w.heap.size + 2, 0, none⟩), .pointer (some ⟨w.heap.size, 0, none⟩)] u fun ev u' => ev = .returned (.tuple #[]) ∧ ButS (fun k => k = r ∨ k = w.heap.size + 1 ∨ k = w.heap.size) u u' ∧ TakenE r B w.heap.size (W.heap.size + 1) e.plain rest u') :=
    Lib.hid fun W u vs h1 h2 h3 h4 h5 h6 h7 => take1_of r B (w.heap.size + 1) (w.heap.size + 2) w.heap.size (W.heap.size + 1) e rest vs u hok hwf hh hn h2 h3 h4 h5 h6 ⟨by omega, by omega⟩ ⟨by omega, by omega, by omega⟩ (by omega) (by omega)
  clear hok hwf hh hn hrd
  go_enter Try.func18, Try.ntmps18
  go_upto_region 2 with fail
  refine nameW (fun u => Ext w u ∧ BoxAt u w.heap.size zeroEx ∧ BoxAt u (w.heap.size + 1) [.pointer (some ⟨r, 0, none⟩), .int .i64 400] ∧ BoxAt u (w.heap.size + 2) [.pointer (some ⟨w.heap.size + 1, 0, none⟩)]) ⟨?_, ?_, ?_, ?_⟩ ?_
  · repeat (first | (with_reducible exact Ext.refl _) | (with_reducible refine Ext.set_ ?_ _ ?_; focus (first | (simp; done) | (simp; omega) | (simp at *; omega))) | (with_reducible refine Ext.alloc ?_ _) | (with_reducible refine Ext.drew ?_) | (with_reducible refine Ext.drewN ?_ _) | (with_reducible refine Ext.trans ?_ (by assumption)))
  · exact ((BoxAt.new rfl rfl).ext ((Ext.refl _).alloc _)).ext ((Ext.refl _).alloc _)
  · exact (BoxAt.new (by simp) rfl).ext ((Ext.refl _).alloc _)
  · exact BoxAt.new (by simp) rfl
  rintro W ⟨hE, hz, ht, hv⟩
  have hWs : w.heap.size + 2 < W.heap.size := hv.lt
  have HG : Hid (Calls Try.prog 58 #[.func (.func 59) #[] #[.pointer (some ⟨w.heap.size + 2, 0, none⟩), .pointer (some ⟨w.heap.size, 0, none⟩)]] W fun e' w' => e' = .returned (.int .i64 0) ∧ (∃ u, TakenE r B w.heap.size (W.heap.size + 1) e.plain rest u ∧ But W.heap.size u w') ∧ ButS (fun k => k = r ∨ k = w.heap.size + 1 ∨ k = w.heap.size) W w') :=
    Lib.hid (guarded_take2 _ _ W _ (fun k hk => by omega) (Lib.hid fun w' he hs => HT.out W w' zeroEx hs ((HRD.out.ext hE).ext he) (ht.ext he) ((hv.ext he).cells.get 0 _ rfl) (hz.ext he) rfl (by omega)))
  have HE := Lib.hid hE
  clear HT HRD hE hz ht hv
  go_wp2_with (first
    | (go_at_call 58; refine HG.out.mono ?_; rintro ev w2 ⟨rfl, ⟨u, hu, hb⟩, hbs⟩; have hu2 := hu.but hb (by omega) (by omega) (by omega) (by omega); obtain ⟨A, n, cap, q1, q2, q3⟩ := hu2; have HQ1 := Lib.hid q1; have HQ2 := Lib.hid q2; have HQ3 := Lib.hid q3; have HBS := Lib.hid hbs; clear q1 q2 q3 hbs hu hb)
    | (refine wpList_wish rfl fun K hK => wp_loadA (vs := exCells e.plain.kind e.plain.rel e.plain.col e.plain.const (.slice A n cap)) agg_ex (.tmp 2) rfl rfl HQ1.out.cells (hK _ _ ?_))
    | (refine wpList_storeA (vs' := exCells e.plain.kind e.plain.rel e.plain.col e.plain.const (.slice A n cap)) exc_one HQ1.out size_ex rfl rfl (.tmp 2) _ rfl rfl rfl ?_; intro w3 hb1 hb2))
  refine back_ct rfl (exCells e.plain.kind e.plain.rel e.plain.col e.plain.const (.slice A n cap)) (.int .i64 0) rfl rfl agg_ex rfl hb1.cells ⟨A, n, cap, rfl, ?_, ?_, ?_⟩
  · exact (HQ2.out.from_ext (M := fun k => k = w.heap.size) (ButS.of_but hb2 rfl) (fun k hk => by subst hk; omega)).of_from
  · have q3 := HQ3.out
    obtain ⟨m1, m2, -⟩ := q3.lt
    exact q3.keep hb2.size (hb2.at_ r ⟨m1, by omega⟩).1 (hb2.at_ B ⟨m2, by omega⟩).1 (hb2.at_ r ⟨m1, by omega⟩).2.1
  · exact ((ButS.of_ext (M := fun k => k = r) HE.out).over HBS.out (fun i hi => by omega)).over (ButS.of_but (M := fun k => k = w.heap.size) hb2 rfl) (fun i hi => by omega)
end Go.Proofs.Ytlcdjaclahhdnaa
