/- Worlds in which alone rows of one element type, from a block on, may have been written; appends onto rows of the call's own. -/
import Derived.Test.YtlcdjaclahhdnaaBase
namespace Go.Proofs.Ytlcdjaclahhdnaa
open Go.RowKit
set_option linter.unusedSimpArgs false
set_option linter.unusedVariables false

/-- Behind writes onto rows of the element type T from block 'base' on, and new blocks. -/
structure Wr (T : TypeId) (base : Nat) (w w' : World) : Prop where
  os : w'.os = w.os
  tape : w'.tape = w.tape
  output : w'.output = w.output
  size : w.heap.size ≤ w'.heap.size
  block : ∀ k, k < w.heap.size → (k < base ∨ ∀ n, w.shape? k ≠ some (T, n)) → w'.heap[k]? = w.heap[k]?

theorem shape_of_heap {w w' : World} {k : Nat} (h : w'.heap[k]? = w.heap[k]?) : w'.shape? k = w.shape? k := by unfold World.shape?; rw [h]

section
variable {T : TypeId} {base : Nat} {w0 w w' : World}
theorem Wr.refl (T : TypeId) (base : Nat) (w : World) : Wr T base w w := ⟨rfl, rfl, rfl, Nat.le_refl _, fun _ _ _ => rfl⟩
theorem Wr.trans (h : Wr T base w0 w) (k : Wr T base w w') : Wr T base w0 w' :=
  ⟨k.os.trans h.os, k.tape.trans h.tape, k.output.trans h.output, Nat.le_trans h.size k.size, fun i hi hc =>
    (k.block i (Nat.lt_of_lt_of_le hi h.size) (hc.imp id fun hn n e => hn n (by rw [← shape_of_heap (h.block i hi hc)]; exact e))).trans (h.block i hi hc)⟩
theorem Wr.of_ext (h : Ext w w') : Wr T base w w' := by
  have h' : Below w.heap.size w w' := h
  exact ⟨h'.os, h'.tape, h'.output, h'.size, fun k hk _ => h'.block k hk⟩
theorem Wr.ext_ (h : Wr T base w0 w) (k : Ext w w') : Wr T base w0 w' := h.trans (.of_ext k)
theorem Wr.alloc (h : Wr T base w0 w) (o : Obj) : Wr T base w0 (w.alloc o) := h.ext_ ((Ext.refl w).alloc o)
theorem Wr.drew (h : Wr T base w0 w) : Wr T base w0 w.drew := h.ext_ (Ext.refl w).drew
theorem Wr.set_ {p : Addr} (hp : w0.heap.size ≤ p.block) (u : Value) (h : Wr T base w0 w) : Wr T base w0 (w.setCell p u) :=
  ⟨h.os, h.tape, h.output, by simpa [World.setCell] using h.size, fun k hk hc => (Below.heap_setCell w p u k (by omega)).trans (h.block k hk hc)⟩
theorem Wr.to_ext (h : Wr T base w w') (hb : w.heap.size ≤ base) : Ext w w' :=
  (⟨h.os, h.tape, h.output, h.size, fun k hk => h.block k hk (.inl (by omega))⟩ : Below w.heap.size w w')
theorem Wr.grown {v : Value} {size n : Nat} {xs : List Value} (ho : w.ownsRow base T size v n xs) (hg : w.grownBy w' v.ownBlock) : Wr T base w w' := by
  refine ⟨hg.os, hg.tape, hg.output, hg.size, fun k hk hc => hg.block k hk fun e => ?_⟩
  rcases ho.2 with ⟨rfl, _⟩ | ⟨g, cap, cur, rfl, hb, hh, _⟩
  · simp [Value.ownBlock] at e
  · simp [Value.ownBlock] at e
    subst e
    rcases hc with hc | hc
    · omega
    · exact hc cur.size (by unfold World.shape?; rw [hh])
/-- A block of another element type. -/
theorem Wr.at_ (h : Wr T base w w') (g : Nat) {t : TypeId} {n : Nat} (hs : w.shape? g = some (t, n)) (ht : t ≠ T) :
    (∀ o, w'.cell? ⟨g, o, none⟩ = w.cell? ⟨g, o, none⟩) ∧ (∀ o, w'.frozen? ⟨g, o, none⟩ = w.frozen? ⟨g, o, none⟩) ∧ g < w'.heap.size ∧ w'.shape? g = some (t, n) := by
  have hg : g < w.heap.size := by
    rcases Nat.lt_or_ge g w.heap.size with h1 | h1
    · exact h1
    · unfold World.shape? at hs; rw [Array.getElem?_eq_none h1] at hs; simp at hs
  have hh := h.block g hg (.inr fun m e => by rw [hs] at e; simp at e; exact ht e.1)
  exact ⟨fun o => World.cell?_of_block (a := ⟨g, o, none⟩) hh, fun o => World.frozen?_of_block (a := ⟨g, o, none⟩) hh, Nat.lt_of_lt_of_le hg h.size, (shape_of_heap hh).trans hs⟩
/-- A block below. -/
theorem Wr.low (h : Wr T base w w') (g : Nat) (hg : g < w.heap.size) (hb : g < base) :
    (∀ o, w'.cell? ⟨g, o, none⟩ = w.cell? ⟨g, o, none⟩) ∧ (∀ o, w'.frozen? ⟨g, o, none⟩ = w.frozen? ⟨g, o, none⟩) ∧ g < w'.heap.size := by
  have hh := h.block g hg (.inl hb)
  exact ⟨fun o => World.cell?_of_block (a := ⟨g, o, none⟩) hh, fun o => World.frozen?_of_block (a := ⟨g, o, none⟩) hh, Nat.lt_of_lt_of_le hg h.size⟩
theorem Wr.mono {base' : Nat} (h : Wr T base w w') (hb : base' ≤ base) : Wr T base' w w' :=
  ⟨h.os, h.tape, h.output, h.size, fun k hk hc => h.block k hk (hc.imp (fun h => by omega) id)⟩
end

section
variable (w : World)
theorem shape_set (a : Addr) (u : Value) (g : Nat) : (w.setCell a u).shape? g = w.shape? g := by
  have hm : (w.setCell a u).heap[g]? = if a.block = g then (w.heap[g]?).map (fun
      | .cells c elem frozen => .cells (if a.spot.isSome then c else c.setIfInBounds a.off u) elem frozen
      | o => o) else w.heap[g]? := by
    unfold World.setCell
    simp only [Array.getElem?_modify]
    rfl
  unfold World.shape?
  rw [hm]
  by_cases h : a.block = g
  · rw [if_pos h]
    cases w.heap[g]? with
    | none => rfl
    | some o =>
      cases o <;> simp only [Option.map_some]
      split <;> simp
  · rw [if_neg h]
theorem shape_new (cs : Array Value) (t : TypeId) : (w.alloc (.cells cs t)).shape? w.heap.size = some (t, cs.size) := by
  unfold World.shape?
  have : (w.alloc (.cells cs t)).heap[w.heap.size]? = some (.cells cs t) := heap_alloc_new w _
  rw [this]
theorem shape_alloc (o : Obj) (g : Nat) (hg : g < w.heap.size) : (w.alloc o).shape? g = w.shape? g := by
  unfold World.shape?
  rw [heap_alloc_old w o hg]
theorem shape_drew (g : Nat) : w.drew.shape? g = w.shape? g := rfl
theorem shape_ext {w w' : World} (h : Ext w w') {g : Nat} {x : TypeId × Nat} (hs : w.shape? g = some x) : w'.shape? g = some x := by
  have hg : g < w.heap.size := by
    rcases Nat.lt_or_ge g w.heap.size with h1 | h1
    · exact h1
    · unfold World.shape? at hs; rw [Array.getElem?_eq_none h1] at hs; simp at hs
  rw [shape_of_heap (h.block hg)]; exact hs
end

/-- A block that is a row, of another element type than T. -/
def NotT (T : TypeId) (w : World) (g : Nat) : Prop := ∃ t m, w.shape? g = some (t, m) ∧ t ≠ T
section
variable {T : TypeId} {base : Nat} {w w' : World} {g : Nat}
theorem NotT.lt (h : NotT T w g) : g < w.heap.size := by
  obtain ⟨t, m, hs, _⟩ := h
  rcases Nat.lt_or_ge g w.heap.size with h1 | h1
  · exact h1
  · unfold World.shape? at hs; rw [Array.getElem?_eq_none h1] at hs; simp at hs
theorem NotT.set (h : NotT T w g) {a : Addr} {u : Value} : NotT T (w.setCell a u) g := by
  obtain ⟨t, m, hs, ht⟩ := h; exact ⟨t, m, by rw [shape_set]; exact hs, ht⟩
theorem NotT.alloc (h : NotT T w g) {o : Obj} : NotT T (w.alloc o) g := by
  have hl := h.lt
  obtain ⟨t, m, hs, ht⟩ := h; exact ⟨t, m, by rw [shape_alloc _ _ _ hl]; exact hs, ht⟩
theorem NotT.drew (h : NotT T w g) : NotT T w.drew g := h
theorem NotT.ext (he : Ext w w') (h : NotT T w g) : NotT T w' g := by
  obtain ⟨t, m, hs, ht⟩ := h; exact ⟨t, m, shape_ext he hs, ht⟩
theorem NotT.wr (he : Wr T base w w') (h : NotT T w g) : NotT T w' g := by
  obtain ⟨t, m, hs, ht⟩ := h; exact ⟨t, m, (he.at_ g hs ht).2.2.2, ht⟩
theorem NotT.new {cs : Array Value} {t : TypeId} (hg : g = w.heap.size) (ht : t ≠ T) : NotT T (w.alloc (.cells cs t)) g := by
  subst hg; exact ⟨t, cs.size, shape_new _ _ _, ht⟩
theorem Wr.at2 (h : Wr T base w w') (g : Nat) (hn : NotT T w g) :
    (∀ o, w'.cell? ⟨g, o, none⟩ = w.cell? ⟨g, o, none⟩) ∧ (∀ o, w'.frozen? ⟨g, o, none⟩ = w.frozen? ⟨g, o, none⟩) ∧ g < w'.heap.size := by
  obtain ⟨t, m, hs, ht⟩ := hn
  obtain ⟨h1, h2, h3, _⟩ := h.at_ g hs ht
  exact ⟨h1, h2, h3⟩
end

/-- What lies in a row of one-cell elements is what a slice reads. -/
theorem owns_form {w : World} {base : Nat} {e : TypeId} {size : Nat} {v : Value} {n : Nat} {xs : List Value} (h : w.ownsRow base e size v n xs) :
    ∃ A c, v = .slice A n c ∧ n ≤ c ∧ c ≤ maxLen ∧ (A = none → n = 0) ∧ ∀ ad, A = some ad → ad.spot = none ∧ base ≤ ad.block ∧ ad.block < w.heap.size ∧ ∀ j u, xs[j]? = some u → w.cell? ⟨ad.block, ad.off + j, none⟩ = some u := by
  rcases h.2 with ⟨rfl, rfl⟩ | ⟨g, cap, cur, rfl, hb, hh, hn, hc, hs, ht⟩
  · exact ⟨none, 0, rfl, Nat.le_refl _, by decide, fun _ => rfl, fun ad h => by cases h⟩
  · refine ⟨some ⟨g, 0, none⟩, cap, rfl, hn, hc, (fun h => by cases h), fun ad h' => ?_⟩
    injection h' with h'; subst h'
    refine ⟨rfl, hb, (Array.getElem?_eq_some_iff.1 hh).1, fun j u hu => ?_⟩
    have := h.cells (g := g) rfl j u hu
    rwa [add_at] at this
theorem owns_ext {w w' : World} {base : Nat} {e : TypeId} {size : Nat} {v : Value} {n : Nat} {xs : List Value} (h : w.ownsRow base e size v n xs) (he : Ext w w') : w'.ownsRow base e size v n xs := by
  refine ⟨h.1, h.2.imp id ?_⟩
  rintro ⟨g, cap, cur, hv, hb, hh, r⟩
  exact ⟨g, cap, cur, hv, hb, by rw [he.block (Array.getElem?_eq_some_iff.1 hh).1]; exact hh, r⟩
theorem owns_set {w : World} {base : Nat} {e : TypeId} {size : Nat} {v : Value} {n : Nat} {xs : List Value} (h : w.ownsRow base e size v n xs) {p : Addr} (u : Value) {t m : Nat} (hs : w.shape? p.block = some (t, m)) (ht : t ≠ e) :
    (w.setCell p u).ownsRow base e size v n xs := by
  refine ⟨h.1, h.2.imp id ?_⟩
  rintro ⟨g, cap, cur, hv, hb, hh, r⟩
  refine ⟨g, cap, cur, hv, hb, ?_, r⟩
  rw [Below.heap_setCell _ _ _ _ ?_]
  · exact hh
  · intro e; subst e
    unfold World.shape? at hs; rw [hh] at hs; simp at hs; exact ht hs.1.symm
theorem owns_mono {w : World} {base base' : Nat} {e : TypeId} {size : Nat} {v : Value} {n : Nat} {xs : List Value} (h : w.ownsRow base e size v n xs) (hb : base' ≤ base) : w.ownsRow base' e size v n xs :=
  ⟨h.1, h.2.imp id fun ⟨g, cap, cur, hv, hg, r⟩ => ⟨g, cap, cur, hv, Nat.le_trans hb hg, r⟩⟩

/-- 'append' of so many elements onto a row of the call's own. -/
theorem wpList_add {P : Program} {w : World} {ops : Array Oper} {rest : List Oper} {o : Oper} {a : Act} {Q : Exit → Act → World → Prop} (hgd : o.guard = none) (s x : Operand) (t : TypeId)
    (ho : o.op = .call { callee := .builtin .append, args := #[s, x], argTypes := #[t, t] })
    {base : Nat} {T : TypeId} {z : Value} {size bytes : Nat} (ht : P.underlying t = some (.slice T)) (hi : (P.info? T).map (fun i => (i.zero, i.size, i.bytes)) = some (some z, size, bytes))
    (hzs : z.cells.size = size) (hsz : 0 < size)
    {v : Value} {n : Nat} {xs : List Value} (hs : a.eval s = v) (hown : w.ownsRow base T size v n xs)
    (g f m c : Nat) (news : List Value) (hx : a.eval x = .slice (some ⟨g, f, none⟩) m c) (hl : news.length = m * size) (hnews : At w g f news) (h1 : ∀ u ∈ news, u.oneCell' = true)
    (hbytes : (n + m) * bytes ≤ 140737488355328) (hb1 : 0 < bytes) (hbase : base ≤ w.heap.size)
    (h : ∀ v' w', w'.ownsRow base T size v' (n + m) (xs ++ news) → Wr T base w w' → wpList P ops Q rest (a.put o.dst v') w') : wpList P ops Q (o :: rest) a w := by
  obtain ⟨i, hi1, hi2⟩ := Option.map_eq_some_iff.1 hi
  simp only [Prod.mk.injEq] at hi2
  refine wpList_append_own w hgd s x t ho base T i z size bytes ht hi1 hi2.1 hi2.2.1 hi2.2.2 hzs hsz v n xs hs hown ⟨g, f, none⟩ m c news hx hl (fun j u hu => ?_) h1 ?_ hbytes hbase fun v' w' ho' hg' _ => h v' w' ho' (Wr.grown hown hg')
  · rw [add_at]; exact hnews.get j u hu
  · have : (n + m) * 1 ≤ (n + m) * bytes := Nat.mul_le_mul_left _ hb1
    unfold maxLen; omega
end Go.Proofs.Ytlcdjaclahhdnaa
