/- Lists of values in memory; the call of 'of', the sketch of a list. -/
import Derived.Test.YtlcdjaclahhdnaaDoorHll9
import Derived.Test.YtlcdjaclahhdnaaDoorSlc
namespace Go.Proofs.YtlcdjaclahhdnaaDoor
open Go.RowKit
set_option linter.unusedSimpArgs false
set_option linter.unusedVariables false

def vc (l : List Val) : List Value := l.flatMap Val.cells
theorem vc_length (l : List Val) : (vc l).length = l.length * 4 := by
  induction l with
  | nil => rfl
  | cons v l ih => simp only [vc, List.flatMap_cons, List.length_append, List.length_cons] at *; rw [ih]; simp [Val.cells]; omega
theorem vc_append (l m : List Val) : vc (l ++ m) = vc l ++ vc m := by simp [vc]
theorem vc_one (l : List Val) : ∀ u ∈ vc l, u.oneCell' = true := by
  intro u hu
  simp only [vc, List.mem_flatMap, Val.cells] at hu
  obtain ⟨v, _, hv⟩ := hu
  simp at hv
  rcases hv with rfl | rfl | rfl | rfl <;> rfl
/-- The i-th value's cells. -/
theorem vc_get (l : List Val) (i : Nat) (hi : i < l.length) (j : Nat) (u : Value) (hu : (l[i].cells)[j]? = some u) : (vc l)[i * 4 + j]? = some u := by
  have hj : j < 4 := by
    have := (List.getElem?_eq_some_iff.1 hu).1
    simpa [Val.cells] using this
  induction l generalizing i with
  | nil => simp at hi
  | cons v l ih =>
    have hl : v.cells.length = 4 := rfl
    cases i with
    | zero =>
      simp only [vc, List.flatMap_cons]
      rw [List.getElem?_append_left (by omega)]
      simpa using hu
    | succ i =>
      simp only [vc, List.flatMap_cons]
      rw [List.getElem?_append_right (by omega), show (i + 1) * 4 + j - v.cells.length = i * 4 + j by omega]
      exact ih i (by simpa using hi) (by simpa using hu)
/-- A slice that holds values. -/
structure ValsIn (w : World) (x : Value) (l : List Val) : Prop where
  val : ∃ A c, x = .slice A l.length c ∧ l.length ≤ c ∧ (A = none → c = 0) ∧ (l ≠ [] → ∃ g o, A = some ⟨g, o, none⟩ ∧ At w g o (vc l))
  ok : ∀ v ∈ l, v.Ok
theorem at_lt {w : World} {g o : Nat} {vs : List Value} (h : At w g o vs) (hn : vs ≠ []) : g < w.heap.size := by
  cases vs with
  | nil => exact absurd rfl hn
  | cons v vs =>
    have h1 := h.1
    rcases Nat.lt_or_ge g w.heap.size with hl | hl
    · exact hl
    · simp [World.cell?, Array.getElem?_eq_none hl] at h1
theorem vc_ne {l : List Val} (h : l ≠ []) : vc l ≠ [] := fun e => by
  have := vc_length l
  rw [e] at this
  have h2 : l.length = 0 := by simp at this; omega
  exact h (List.eq_nil_of_length_eq_zero h2)
theorem ValsIn.ext {w w' : World} {x : Value} {l : List Val} (he : Ext w w') (h : ValsIn w x l) : ValsIn w' x l := by
  obtain ⟨⟨A, c, h1, h2, h3, h4⟩, ok⟩ := h
  refine ⟨⟨A, c, h1, h2, h3, fun hn => ?_⟩, ok⟩
  obtain ⟨g, o, h5, h6⟩ := h4 hn
  exact ⟨g, o, h5, h6.ext he (at_lt h6 (vc_ne hn))⟩
/-- The i-th value. -/
theorem ValsIn.at_ {w : World} {A : Option Addr} {n c : Nat} {l : List Val} (h : ValsIn w (.slice A n c) l) (i : Nat) (hi : i < l.length) :
    ∃ g o, A = some ⟨g, o, none⟩ ∧ n = l.length ∧ At w g (o + i * 4) l[i].cells ∧ l[i].Ok ∧ g < w.heap.size := by
  obtain ⟨⟨A', c', h1, h2, h3, h4⟩, ok⟩ := h
  have hn : l ≠ [] := fun e => by subst e; simp at hi
  obtain ⟨g, o, rfl, h6⟩ := h4 hn
  simp only [Value.slice.injEq] at h1
  obtain ⟨rfl, rfl, rfl⟩ := h1
  refine ⟨g, o, rfl, rfl, At.of_get fun j u hu => ?_, ok _ (List.getElem_mem hi), at_lt h6 (vc_ne hn)⟩
  have := h6.get _ u (vc_get l i hi j u hu)
  rwa [Nat.add_assoc]

def sketchOf (l : List Val) : List Nat := l.foldl addR zeros64
theorem sketch_len (l : List Val) : ∀ r : List Nat, r.length = 64 → (l.foldl addR r).length = 64 := by
  induction l with
  | nil => intro r h; exact h
  | cons v l ih => intro r h; exact ih _ ((addR_length r v).trans h)
theorem addR_byte {r : List Nat} {v : Val} (h : ∀ x ∈ r, x < 256) : ∀ x ∈ addR r v, x < 256 := by
  intro x hx
  unfold addR raise at hx
  rcases List.mem_or_eq_of_mem_set hx with h1 | rfl
  · exact h x h1
  · have := rankV_le v
    have h2 : r.getD (atV v) 0 < 256 := by
      rw [List.getD_eq_getElem?_getD]
      cases he : r[atV v]? with
      | none => simp
      | some y => simpa using h y (List.mem_of_getElem? he)
    omega
theorem sketch_byte (l : List Val) : ∀ r : List Nat, (∀ x ∈ r, x < 256) → ∀ x ∈ l.foldl addR r, x < 256 := by
  induction l with
  | nil => intro r h; exact h
  | cons v l ih => intro r h; exact ih _ (addR_byte h)
theorem sketchOf_len (l : List Val) : (sketchOf l).length = 64 := sketch_len l _ zeros64_len
theorem sketchOf_byte (l : List Val) : ∀ x ∈ sketchOf l, x < 256 := sketch_byte l _ zeros64_byte
theorem sketchOf_next (l : List Val) (i : Nat) (hi : i < l.length) : sketchOf (l.take (i + 1)) = addR (sketchOf (l.take i)) l[i] := by
  unfold sketchOf
  rw [List.take_succ_eq_append_getElem hi, List.foldl_append]; rfl
theorem zerosNew {w : World} {t : TypeId} {g : Nat} (hg : g = w.heap.size) : RowB (w.alloc (.cells (bv zeros64).toArray t)) g zeros64 := RowB.new hg t _ rfl zeros64_len
theorem sizeVal : (Tryd.prog.info? 27).map (·.size) = some 4 := by kernel_rfl
theorem zeros64_eq : List.replicate 64 0 = zeros64 := by unfold zeros64; rfl
theorem sketchOf_nil : sketchOf [] = List.replicate 64 0 := zeros64_eq.symm

set_option maxRecDepth 100000 in
set_option maxHeartbeats 2000000 in
theorem of_of (x : Value) (l : List Val) (w : World) (hx : ValsIn w x l) (hl : l.length ≤ 1000000000) :
    Calls Tryd.prog 7 #[x] w fun e w' => e = .returned (.agg (bv (sketchOf l)).toArray) ∧ Ext w w' := by
  obtain ⟨A, c, rfl, h2⟩ := hx.val
  have HX := Lib.hid hx; clear hx h2
  have ha := Lib.hid (fun (r : List Nat) (v : Val) w (h1 : r.length = 64) (h2 : ∀ x ∈ r, x < 256) (h3 : v.Ok) => add_of r v w h1 h2 h3)
  go_enter Tryd.func7, Tryd.ntmps7
  go_wp2_with fail
  go_loopw [8] (fun x wr => ∃ i : Nat, x = .int .i64 (i : Int) ∧ i ≤ l.length ∧ RowB wr (w.heap.size + 1) (sketchOf (l.take i)) ∧ (∃ z, RowB wr w.heap.size z) ∧ Ext w wr) (fun x _ => l.length - (intOf x).toNat)
  case atStart =>
    refine ⟨0, rfl, by omega, ?_, ⟨List.replicate 64 0, RowB.alloc _ (RowB.new rfl _ _ rfl (by decide))⟩, by repeat (first | (with_reducible exact Ext.refl _) | (with_reducible refine Ext.set_ ?_ _ ?_; focus (first | (simp; done) | (simp; omega) | (simp at *; omega))) | (with_reducible refine Ext.alloc ?_ _) | (with_reducible refine Ext.drew ?_) | (with_reducible refine Ext.drewN ?_ _) | (with_reducible refine Ext.trans ?_ (by assumption)))⟩
    rw [List.take_zero, sketchOf_nil]
    exact RowB.new (by simp) _ _ rfl (by decide)
  case round =>
    rename_i hrel
    obtain ⟨i, rfl, hi, hrow, ⟨z, hz⟩, hE⟩ := hrel
    have HZ := Lib.hid hz; have HROW := Lib.hid hrow; clear hrow hz
    by_cases hlt : i < l.length
    · have hlt' : (i : Int) < (l.length : Int) := by omega
      have hw : wrap64 ((i : Int) + 1) = (i : Int) + 1 := by unfold wrap64; omega
      obtain ⟨g, o, rfl, _, hcell, hok, hg⟩ := HX.out.at_ i hlt
      have HC := Lib.hid (hcell.ext hE hg)
      have HN := Lib.hid (sketchOf_next l i hlt)
      have hlen := sketchOf_len (l.take i)
      have hbyt := sketchOf_byte (l.take i)
      have HOK := Lib.hid hok
      have HBY := Lib.hid hbyt
      clear hcell hok hbyt
      generalize l[i] = v at *
      generalize sketchOf (l.take i) = r at *
      go_wp2_with (first
        | (refine wpList_wish rfl fun K hK => wp_idxS (i := i) Tryd.underlying22 sizeVal _ _ rfl rfl rfl hlt (hK _ _ ?_))
        | (refine wpList_wish rfl fun K hK => wp_loadA (vs := [.int .i64 v.kind, .int .i64 v.int, .float .f64 v.flt, .string v.text]) agg_val (.tmp 10) rfl rfl HC.out (hK _ _ ?_))
        | (refine wpList_load32 rfl _ rfl rfl (RowB.alloc _ HROW.out) ?_)
        | (go_at_call 10; refine (ha.out r v _ hlen HBY.out HOK.out).mono ?_; rintro e w2 ⟨rfl, hb⟩; have HR2 := Lib.hid (RowB.ext hb (RowB.alloc _ HROW.out)); have HZ2 := Lib.hid (RowB.ext hb (RowB.alloc _ HZ.out)); have hE2 : Ext w w2 := by repeat (first | (with_reducible exact Ext.refl _) | (with_reducible refine Ext.set_ ?_ _ ?_; focus (first | (simp; done) | (simp; omega) | (simp at *; omega))) | (with_reducible refine Ext.alloc ?_ _) | (with_reducible refine Ext.drew ?_) | (with_reducible refine Ext.drewN ?_ _) | (with_reducible refine Ext.trans ?_ (by assumption))))
        | (refine wpList_store32 (l' := addR r v) rfl _ _ rfl rfl rfl ((addR_length r v).trans hlen) HR2.out ?_; intro w3 hr3 hb3))
      refine ⟨⟨i + 1, by simp, by omega, HN.out ▸ hr3, ⟨z, RowB.but hb3 (by omega) HZ2.out⟩, But.to_ext hE2 hb3 (by omega)⟩, by simp [intOf]; omega⟩
    · have hlt' : ¬ ((i : Int) < (l.length : Int)) := by omega
      obtain rfl : i = l.length := by omega
      rw [List.take_length] at HROW
      have hsl := sketchOf_len l
      go_wp2_with (first
        | (refine wpList_load32 rfl _ rfl rfl HROW.out ?_)
        | (refine wpList_store32 rfl _ _ rfl rfl rfl hsl HZ.out ?_; intro w3 hr3 hb3))
      have hr := hr3.at_
      refine back_cell rfl (bv (sketchOf l)) rfl (by rw [bv_length, hsl]; exact agg32) rfl hr ⟨rfl, ?_⟩
      exact But.to_ext hE hb3 (by omega)
end Go.Proofs.YtlcdjaclahhdnaaDoor
