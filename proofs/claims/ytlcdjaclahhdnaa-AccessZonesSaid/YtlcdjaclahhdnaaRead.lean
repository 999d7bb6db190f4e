/- The calls of package codec's reader, where it holds what is asked for. -/
import Derived.Test.YtlcdjaclahhdnaaPut
namespace Go.Proofs.Ytlcdjaclahhdnaa
open Go.RowKit
set_option linter.unusedSimpArgs false
set_option linter.unusedVariables false

/-- Nothing that was there has turned, but one block. -/
structure But (r : Nat) (w w' : World) : Prop where
  os : w'.os = w.os
  tape : w'.tape = w.tape
  output : w'.output = w.output
  size : w.heap.size ≤ w'.heap.size
  block : ∀ k, k < w.heap.size → k ≠ r → w'.heap[k]? = w.heap[k]?
section
variable {r : Nat} {w w' w'' : World}
theorem But.refl (r : Nat) (w : World) : But r w w := ⟨rfl, rfl, rfl, Nat.le_refl _, fun _ _ _ => rfl⟩
theorem But.trans (h : But r w w') (k : But r w' w'') : But r w w'' :=
  ⟨k.os.trans h.os, k.tape.trans h.tape, k.output.trans h.output, Nat.le_trans h.size k.size, fun i hi hn => (k.block i (Nat.lt_of_lt_of_le hi h.size) hn).trans (h.block i hi hn)⟩
theorem But.of_ext (h : Ext w w') : But r w w' := by
  have h' : Below w.heap.size w w' := h
  exact ⟨h'.os, h'.tape, h'.output, h'.size, fun k hk _ => h'.block k hk⟩
theorem But.to_ext {w0 : World} (h0 : Ext w0 w) (h : But r w w') (hr : w0.heap.size ≤ r) : Ext w0 w' := by
  have h' : Below w0.heap.size w0 w := h0
  exact ⟨h.os.trans h'.os, h.tape.trans h'.tape, h.output.trans h'.output, Nat.le_trans h'.size h.size, fun k hk => (h.block k (Nat.lt_of_lt_of_le hk h'.size) (by omega)).trans (h'.block k hk)⟩
theorem But.alloc (h : But r w w') (o : Obj) : But r w (w'.alloc o) := h.trans (.of_ext ((Ext.refl _).alloc o))
theorem But.drew (h : But r w w') : But r w w'.drew := h.trans (.of_ext (Ext.refl _).drew)
theorem But.set_ {p : Addr} (hp : w.heap.size ≤ p.block ∨ p.block = r) (u : Value) (h : But r w w') : But r w (w'.setCell p u) := by
  refine ⟨h.os, h.tape, h.output, by have := h.size; simpa [World.setCell] using this, fun k hk hn => ?_⟩
  rw [Below.heap_setCell _ _ _ _ (by rcases hp with hp | hp <;> omega)]
  exact h.block k hk hn
theorem But.at_ (h : But r w w') (g : Nat) (hg : g < w.heap.size ∧ g ≠ r) : (∀ o, w'.cell? ⟨g, o, none⟩ = w.cell? ⟨g, o, none⟩) ∧ (∀ o, w'.frozen? ⟨g, o, none⟩ = w.frozen? ⟨g, o, none⟩) ∧ g < w'.heap.size := by
  have hb := h.block g hg.1 hg.2
  refine ⟨fun o => ?_, fun o => ?_, Nat.lt_of_lt_of_le hg.1 h.size⟩
  · simp only [World.cell?, hb]
  · simp only [World.frozen?, hb]
end

/-- A reader that still holds the bytes xs, of block B. -/
structure RdAt (w : World) (r B p c : Nat) (xs : List Nat) : Prop where
  ne : B ≠ r
  ltB : B < w.heap.size
  ltr : r < w.heap.size
  cap : xs.length ≤ c
  c0 : w.cell? ⟨r, 0, none⟩ = some (.bool true)
  c1 : w.cell? ⟨r, 1, none⟩ = some (.slice (some ⟨B, p, none⟩) xs.length c)
  c2 : w.cell? ⟨r, 2, none⟩ = some (.int .i64 0)
  fr : w.frozen? ⟨r, 1, none⟩ = false
  bytes : At w B p (bv xs)
def Rd (w : World) (r B : Nat) (xs : List Nat) : Prop := ∃ p c, RdAt w r B p c xs
theorem At.keep {w w' : World} {g : Nat} (hc : ∀ o, w'.cell? ⟨g, o, none⟩ = w.cell? ⟨g, o, none⟩) {o : Nat} {vs : List Value} (h : At w g o vs) : At w' g o vs :=
  .of_get fun j v hv => (hc _).trans (h.get j v hv)
theorem Rd.keep {w w' : World} {r B : Nat} {xs : List Nat} (h : Rd w r B xs) (hs : w.heap.size ≤ w'.heap.size) (h1 : ∀ o, w'.cell? ⟨r, o, none⟩ = w.cell? ⟨r, o, none⟩) (h2 : ∀ o, w'.cell? ⟨B, o, none⟩ = w.cell? ⟨B, o, none⟩)
    (h3 : ∀ o, w'.frozen? ⟨r, o, none⟩ = w.frozen? ⟨r, o, none⟩) : Rd w' r B xs := by
  obtain ⟨p, c, h⟩ := h
  exact ⟨p, c, h.ne, Nat.lt_of_lt_of_le h.ltB hs, Nat.lt_of_lt_of_le h.ltr hs, h.cap, (h1 _).trans h.c0, (h1 _).trans h.c1, (h1 _).trans h.c2, (h3 _).trans h.fr, h.bytes.keep h2⟩
theorem Rd.lt {w : World} {r B : Nat} {xs : List Nat} (h : Rd w r B xs) : r < w.heap.size ∧ B < w.heap.size ∧ B ≠ r := by
  obtain ⟨p, c, h⟩ := h; exact ⟨h.ltr, h.ltB, h.ne⟩
theorem Rd.ext {w w' : World} {r B : Nat} {xs : List Nat} (he : Ext w w') (h : Rd w r B xs) : Rd w' r B xs := by
  obtain ⟨h1, h2, _⟩ := h.lt
  exact h.keep he.size (he.at_ r h1).1 (he.at_ B h2).1 (he.at_ r h1).2.1
theorem Rd.alloc {w : World} {r B : Nat} {xs : List Nat} (o : Obj) (h : Rd w r B xs) : Rd (w.alloc o) r B xs := h.ext ((Ext.refl _).alloc o)
theorem Rd.drew {w : World} {r B : Nat} {xs : List Nat} (h : Rd w r B xs) : Rd w.drew r B xs := h.ext (Ext.refl _).drew
theorem Rd.set {w : World} {r B : Nat} {xs : List Nat} {a : Addr} {u : Value} (h1 : a.block ≠ r) (h2 : a.block ≠ B) (h : Rd w r B xs) : Rd (w.setCell a u) r B xs := by
  have e : ∀ g, g ≠ a.block → (w.setCell a u).heap[g]? = w.heap[g]? := fun g hg => Below.heap_setCell _ _ _ _ hg
  refine h.keep (by simp [World.setCell]) (fun o => ?_) (fun o => ?_) (fun o => ?_)
  · simp only [World.cell?, e r (Ne.symm h1)]
  · simp only [World.cell?, e B (Ne.symm h2)]
  · simp only [World.frozen?, e r (Ne.symm h1)]

theorem read_of (g n c : Nat) (o : Nat) (w : World) (xs : List Nat) (hg : g < w.heap.size) (hn : xs.length = n) (hc : n ≤ c) (ha : At w g o (bv xs)) :
    Calls Try.prog 16 #[.slice (some ⟨g, o, none⟩) n c] w fun e w' => e = .returned (.pointer (some ⟨w.heap.size, 0, none⟩)) ∧ Rd w' w.heap.size g xs ∧ Ext w w' := by
  have hkeep := Lib.hid ha; clear ha
  go_enter Try.func16, Try.ntmps16
  go_wp2_with fail
  go_ret
  refine ⟨rfl, ?_, ?_⟩
  · subst hn
    refine ⟨o, c, by omega, ?_, ?_, hc, ?_, ?_, ?_, ?_, ?_⟩
    · simp; omega
    · simp
    · go_simp
    · go_simp
    · go_simp
    · go_simp
    · exact hkeep.out.ext (by repeat (first | (with_reducible exact Ext.refl _) | (with_reducible refine Ext.set_ ?_ _ ?_; focus (first | (simp; done) | (simp; omega) | (simp at *; omega))) | (with_reducible refine Ext.alloc ?_ _) | (with_reducible refine Ext.drew ?_) | (with_reducible refine Ext.drewN ?_ _) | (with_reducible refine Ext.trans ?_ (by assumption)))) hg
  · repeat (first | (with_reducible exact Ext.refl _) | (with_reducible refine Ext.set_ ?_ _ ?_; focus (first | (simp; done) | (simp; omega) | (simp at *; omega))) | (with_reducible refine Ext.alloc ?_ _) | (with_reducible refine Ext.drew ?_) | (with_reducible refine Ext.drewN ?_ _) | (with_reducible refine Ext.trans ?_ (by assumption)))

theorem ready_of (r B : Nat) (xs : List Nat) (w : World) (h : Rd w r B xs) : Calls Try.prog 62 #[.pointer (some ⟨r, 0, none⟩)] w fun e w' => e = .returned (.bool true) ∧ w = w' := by
  obtain ⟨p, c, h⟩ := h
  have c0 := h.c0
  have c2 := h.c2
  clear h
  go_enter Try.func62, Try.ntmps62
  go_wp2
  go_ret
  exact ⟨rfl, rfl⟩
theorem err_of (r B : Nat) (xs : List Nat) (w : World) (h : Rd w r B xs) : Calls Try.prog 83 #[.pointer (some ⟨r, 0, none⟩)] w fun e w' => e = .returned (.int .i64 0) ∧ w = w' := by
  obtain ⟨p, c, h⟩ := h
  have c0 := h.c0
  have c2 := h.c2
  clear h
  go_enter Try.func83, Try.ntmps83
  go_wp2
  go_ret
  exact ⟨rfl, rfl⟩

/-- What take gives. -/
def Took (r B p m c k : Nat) (w : World) (e : Ending) (w' : World) : Prop :=
  ∃ p', e = .returned (.tuple #[.slice (some ⟨B, p, none⟩) k c, .bool true]) ∧ w' = w.setCell ⟨r, 1, none⟩ (.slice (some ⟨B, p', none⟩) (m - k) (c - k)) ∧ (p' = p + k ∨ c = k)
theorem take_raw (r B p m c k : Nat) (w : World) (hne : B ≠ r) (c1 : w.cell? ⟨r, 1, none⟩ = some (.slice (some ⟨B, p, none⟩) m c)) (fr : w.frozen? ⟨r, 1, none⟩ = false) (hk : k ≤ m) (hm : m ≤ c) :
    Calls Try.prog 127 #[.pointer (some ⟨r, 0, none⟩), .int .i64 (k : Int)] w (Took r B p m c k w) := by
  have h1 : ¬ ((m : Int) < (k : Int)) := by omega
  have h2 : (k : Int) ≤ (m : Int) := by omega
  have h3 : (k : Int) ≤ (c : Int) := by omega
  by_cases hc : c = k
  · go_enter Try.func127, Try.ntmps127
    go_wp2
    all_goals go_ret2
    all_goals refine ⟨p, ?_, ?_, .inr rfl⟩
    all_goals (first | rfl | (simp; done) | (simp [add_at]; done))
  · have hc' : ¬ (c = 0) := by omega
    go_enter Try.func127, Try.ntmps127
    go_wp2
    all_goals go_ret2
    all_goals refine ⟨p + k, ?_, ?_, .inl rfl⟩
    all_goals (first | rfl | (simp; done) | (simp [add_at, hc]; done))
theorem At.split {w : World} {g : Nat} : ∀ {vs us : List Value} {o : Nat}, At w g o (vs ++ us) → At w g o vs ∧ At w g (o + vs.length) us
  | [], _, _, h => ⟨trivial, h⟩
  | v :: vs, us, o, h => by
    obtain ⟨h1, h2⟩ := h
    obtain ⟨h3, h4⟩ := At.split (vs := vs) h2
    exact ⟨⟨h1, h3⟩, by simpa [Nat.add_assoc, Nat.add_comm 1] using h4⟩
theorem take_of (r B : Nat) (xs rest : List Nat) (w : World) (h : Rd w r B (xs ++ rest)) :
    Calls Try.prog 127 #[.pointer (some ⟨r, 0, none⟩), .int .i64 (xs.length : Int)] w fun e w' =>
      ∃ p c, e = .returned (.tuple #[.slice (some ⟨B, p, none⟩) xs.length c, .bool true]) ∧ xs.length ≤ c ∧ At w' B p (bv xs) ∧ Rd w' r B rest ∧ But r w w' := by
  obtain ⟨p, c, h⟩ := h
  have hl : (xs ++ rest).length = xs.length + rest.length := List.length_append
  have hcap := h.cap
  refine (take_raw r B p _ c xs.length w h.ne h.c1 h.fr (by omega) h.cap).mono ?_
  rintro e w' ⟨p', rfl, rfl, hp'⟩
  have hk : But r w (w.setCell ⟨r, 1, none⟩ (.slice (some ⟨B, p', none⟩) ((xs ++ rest).length - xs.length) (c - xs.length))) := But.set_ (p := ⟨r, 1, none⟩) (.inr rfl) _ (But.refl r w)
  obtain ⟨kc, kf, kl⟩ := hk.at_ B ⟨h.ltB, h.ne⟩
  have hb := h.bytes
  rw [bv_append] at hb
  obtain ⟨hb1, hb2⟩ := At.split hb
  rw [bv_length] at hb2
  refine ⟨p, c, rfl, by omega, hb1.keep kc, ⟨p', c - xs.length, h.ne, kl, Nat.lt_of_lt_of_le h.ltr hk.size, by omega, ?_, ?_, ?_, ?_, ?_⟩, hk⟩
  · have c0 := h.c0; have c1 := h.c1; go_simp
  · have c0 := h.c0; have c1 := h.c1; go_simp
  · have c0 := h.c2; have c1 := h.c1; go_simp
  · have := h.fr; have := h.ltr; simp [*]
  · rcases hp' with rfl | hp'
    · exact hb2.keep kc
    · have : rest = [] := List.eq_nil_of_length_eq_zero (by omega)
      subst this; trivial
end Go.Proofs.Ytlcdjaclahhdnaa
