/- Worlds in which a few blocks alone may have turned; worlds of which some blocks are looked at; a row of expressions of the call's own; expr.guarded around expr.Take's closure. -/
import Derived.Test.YtlcdjaclahhdnaaEx3
import Derived.Test.YtlcdjaclahhdnaaGd
import Derived.Maps.AppendAt
namespace Go.Proofs.Ytlcdjaclahhdnaa
open Go.RowKit
set_option linter.unusedSimpArgs false
set_option linter.unusedVariables false

/-- Nothing that was there has turned, but the blocks of M. -/
structure ButS (M : Nat → Prop) (w w' : World) : Prop where
  os : w'.os = w.os
  tape : w'.tape = w.tape
  output : w'.output = w.output
  size : w.heap.size ≤ w'.heap.size
  block : ∀ k, k < w.heap.size → ¬ M k → w'.heap[k]? = w.heap[k]?
section
variable {M M' : Nat → Prop} {w w' w'' : World}
theorem ButS.refl (M : Nat → Prop) (w : World) : ButS M w w := ⟨rfl, rfl, rfl, Nat.le_refl _, fun _ _ _ => rfl⟩
theorem ButS.trans (h : ButS M w w') (k : ButS M w' w'') : ButS M w w'' :=
  ⟨k.os.trans h.os, k.tape.trans h.tape, k.output.trans h.output, Nat.le_trans h.size k.size, fun i hi hn => (k.block i (Nat.lt_of_lt_of_le hi h.size) hn).trans (h.block i hi hn)⟩
/-- What the later step may turn besides is new. -/
theorem ButS.over (h : ButS M w w') (k : ButS M' w' w'') (hm : ∀ i, M' i → M i ∨ w.heap.size ≤ i) : ButS M w w'' :=
  ⟨k.os.trans h.os, k.tape.trans h.tape, k.output.trans h.output, Nat.le_trans h.size k.size, fun i hi hn => (k.block i (Nat.lt_of_lt_of_le hi h.size) (fun hk => by rcases hm i hk with h1 | h1; exact hn h1; omega)).trans (h.block i hi hn)⟩
theorem ButS.of_ext (h : Ext w w') : ButS M w w' := by
  have h' : Below w.heap.size w w' := h
  exact ⟨h'.os, h'.tape, h'.output, h'.size, fun k hk _ => h'.block k hk⟩
theorem ButS.of_but {r : Nat} (h : But r w w') (hr : M r) : ButS M w w' := ⟨h.os, h.tape, h.output, h.size, fun k hk hn => h.block k hk (fun e => hn (e ▸ hr))⟩
theorem ButS.of_grown {row : Option Nat} (h : w.grownBy w' row) (hr : ∀ k, row = some k → M k) : ButS M w w' := ⟨h.os, h.tape, h.output, h.size, fun k hk hn => h.block k hk (fun e => hn (hr k e.symm))⟩
theorem ButS.alloc (h : ButS M w w') (o : Obj) : ButS M w (w'.alloc o) := h.trans (.of_ext ((Ext.refl _).alloc o))
theorem ButS.drew (h : ButS M w w') : ButS M w w'.drew := h.trans (.of_ext (Ext.refl _).drew)
theorem ButS.set_ {p : Addr} (hp : w.heap.size ≤ p.block ∨ M p.block) (u : Value) (h : ButS M w w') : ButS M w (w'.setCell p u) := by
  refine ⟨h.os, h.tape, h.output, by have := h.size; simpa [World.setCell] using this, fun k hk hn => ?_⟩
  rw [Below.heap_setCell _ _ _ _ (by rcases hp with hp | hp; omega; exact fun e => hn (e ▸ hp))]
  exact h.block k hk hn
theorem ButS.at_ (h : ButS M w w') (g : Nat) (hg : g < w.heap.size) (hn : ¬ M g) : (∀ o, w'.cell? ⟨g, o, none⟩ = w.cell? ⟨g, o, none⟩) ∧ (∀ o, w'.frozen? ⟨g, o, none⟩ = w.frozen? ⟨g, o, none⟩) ∧ g < w'.heap.size := by
  have hb := h.block g hg hn
  refine ⟨fun o => ?_, fun o => ?_, Nat.lt_of_lt_of_le hg h.size⟩
  · simp only [World.cell?, hb]
  · simp only [World.frozen?, hb]
theorem ButS.to_ext {w0 : World} (h0 : Ext w0 w) (h : ButS M w w') (hr : ∀ k, M k → w0.heap.size ≤ k) : Ext w0 w' := by
  have h' : Below w0.heap.size w0 w := h0
  exact ⟨h.os.trans h'.os, h.tape.trans h'.tape, h.output.trans h'.output, Nat.le_trans h'.size h.size, fun k hk => (h.block k (Nat.lt_of_lt_of_le hk h'.size) (fun hm => by have := hr k hm; omega)).trans (h'.block k hk)⟩
theorem ButS.box (h : ButS M w w') {g : Nat} {vs : List Value} (hn : ¬ M g) (hb : BoxAt w g vs) : BoxAt w' g vs := by
  obtain ⟨c, f, l⟩ := h.at_ g hb.lt hn
  exact ⟨hb.cells.keep c, fun j => (f j).trans (hb.free j), l⟩
end

/-- The world, the blocks outside p being empty. -/
def only (w : World) (p : Nat → Bool) : World := { w with heap := w.heap.mapIdx fun i o => if p i then o else .cells #[] 0 }
theorem only_get {w : World} {p : Nat → Bool} {k : Nat} (h : p k = true) : (only w p).heap[k]? = w.heap[k]? := by
  simp [only, h]
theorem only_not {w : World} {p : Nat → Bool} {k : Nat} (h : p k = false) : (only w p).heap[k]? = (w.heap[k]?).map fun _ => .cells #[] 0 := by
  simp [only, h]
theorem only_cell {w w' : World} {p q : Nat → Bool} (h : ∀ k, k < w.heap.size → p k = true → q k = true ∧ w'.heap[k]? = w.heap[k]?) (a : Addr) (v : Value) (hc : (only w p).cell? a = some v) : (only w' q).cell? a = some v := by
  by_cases hp : p a.block = true
  · have hl : a.block < w.heap.size := by
      rcases Nat.lt_or_ge a.block w.heap.size with hl | hl
      · exact hl
      · simp only [World.cell?, only_get hp, Array.getElem?_eq_none hl] at hc; simp at hc
    obtain ⟨h1, h2⟩ := h _ hl hp
    simp only [World.cell?, only_get hp, only_get h1, h2] at hc ⊢
    exact hc
  · have hp' : p a.block = false := by simpa using hp
    simp only [World.cell?, only_not hp'] at hc
    cases hh : w.heap[a.block]? with
    | none => simp [hh] at hc
    | some o => simp [hh] at hc
theorem only_all (w : World) : only w (fun _ => true) = w := by
  have h : Array.mapIdx (fun (_ : Nat) (o : Obj) => o) w.heap = w.heap := by apply Array.ext <;> simp
  simp [only, h]
theorem At.of_cells {w w' : World} (hc : ∀ a v, w.cell? a = some v → w'.cell? a = some v) {g o : Nat} {vs : List Value} (h : At w g o vs) : At w' g o vs := .of_get fun j v hv => hc _ _ (h.get j v hv)
theorem Exs.At.of_cells {w w' : World} (hc : ∀ a v, w.cell? a = some v → w'.cell? a = some v) (l : List Ex) (ih : ∀ e ∈ l, ∀ s, Ex.In w e s → Ex.In w' e s) : ∀ g o, Exs.At w g o l → Exs.At w' g o l := by
  induction l with
  | nil => intro g o _; simp [Exs.At]
  | cons e l ih2 =>
    intro g o h
    simp only [Exs.At] at h ⊢
    obtain ⟨⟨s, h1, h2⟩, h3⟩ := h
    exact ⟨⟨s, Go.Proofs.Ytlcdjaclahhdnaa.At.of_cells hc h1, ih e (by simp) s h2⟩, ih2 (fun e he => ih e (by simp [he])) g (o + 8) h3⟩
theorem Ex.In.of_cells {w w' : World} (hc : ∀ a v, w.cell? a = some v → w'.cell? a = some v) : ∀ (e : Ex) (s : Value), Ex.In w e s → Ex.In w' e s := by
  intro e
  induction e using Ex.ind with
  | h k r c v l ih =>
    intro s h
    simp only [Ex.In] at h ⊢
    obtain ⟨h1, h2, h3, h4, h5, A, cap, h6, h7, h8, h9⟩ := h
    refine ⟨h1, h2, h3, h4, h5, A, cap, h6, h7, h8, fun hn => ?_⟩
    obtain ⟨g, o, h10, h11⟩ := h9 hn
    exact ⟨g, o, h10, Exs.At.of_cells hc l ih g o h11⟩
/-- Among the blocks from b on. -/
def from_ (b : Nat) : Nat → Bool := fun k => decide (b ≤ k)
theorem Ex.In.from_ext {M : Nat → Prop} {w w' : World} {b : Nat} {e : Ex} {s : Value} (h : Ex.In (only w (from_ b)) e s) (hb : ButS M w w') (hm : ∀ k, M k → k < b) : Ex.In (only w' (from_ b)) e s :=
  Ex.In.of_cells (only_cell fun k hk hp => ⟨hp, hb.block k hk fun hM => by have := hm k hM; simp only [from_, decide_eq_true_eq] at hp; omega⟩) e s h
theorem Ex.In.of_from {w : World} {b : Nat} {e : Ex} {s : Value} (h : Ex.In (only w (from_ b)) e s) : Ex.In w e s := by
  rw [← only_all w]
  exact Ex.In.of_cells (only_cell fun k hk hp => ⟨rfl, rfl⟩) e s h

/-- The blocks from base on, but the row's own. -/
def beside (base : Nat) (v : Value) : Nat → Bool := fun k => decide (base ≤ k) && !decide (v.ownBlock = some k)
def zipCells : List Ex → List Value → List Value
  | e :: l, s :: ss => e.cells s ++ zipCells l ss
  | _, _ => []
/-- A row of the call's own that holds expressions, the parts of which lie beside it. -/
def OwnX (w : World) (base : Nat) (v : Value) (l : List Ex) : Prop :=
  ∃ ss : List Value, ss.length = l.length ∧ w.ownsRow base 27 8 v l.length (zipCells l ss) ∧ ∀ (i : Nat) (e : Ex) (s : Value), l[i]? = some e → ss[i]? = some s → Ex.In (only w (beside base v)) e s
theorem OwnX.nil (w : World) (base : Nat) : OwnX w base (.slice none 0 0) [] := ⟨[], rfl, ⟨by simp [zipCells], .inl ⟨rfl, rfl⟩⟩, by simp⟩
theorem zipCells_snoc : ∀ (l : List Ex) (ss : List Value) (e : Ex) (s : Value), ss.length = l.length → zipCells (l ++ [e]) (ss ++ [s]) = zipCells l ss ++ e.cells s
  | [], [], e, s, _ => by simp [zipCells]
  | [], _ :: _, e, s, h => by simp at h
  | _ :: _, [], e, s, h => by simp at h
  | f :: l, t :: ss, e, s, h => by
    simp only [List.cons_append, zipCells]
    rw [zipCells_snoc l ss e s (by simpa using h), List.append_assoc]
theorem owns_lt {w : World} {base : Nat} {T : TypeId} {size : Nat} {v : Value} {n : Nat} {xs : List Value} (h : w.ownsRow base T size v n xs) {g : Nat} (hg : v.ownBlock = some g) : g < w.heap.size ∧ base ≤ g := by
  rcases h.2 with ⟨rfl, _⟩ | ⟨g', cap, cur, rfl, hb, hh, _⟩
  · simp [Value.ownBlock] at hg
  · simp [Value.ownBlock] at hg; subst hg
    exact ⟨(Array.getElem?_eq_some_iff.1 hh).1, hb⟩
/-- Behind a step that turns only blocks below the row's base. -/
theorem OwnX.buts {M : Nat → Prop} {w w' : World} {base : Nat} {v : Value} {l : List Ex} (h : OwnX w base v l) (hb : ButS M w w') (hm : ∀ k, M k → k < base) : OwnX w' base v l := by
  obtain ⟨ss, h1, h2, h3⟩ := h
  refine ⟨ss, h1, ?_, fun i e s he hs => Ex.In.of_cells (only_cell fun k hk hp => ⟨hp, hb.block k hk fun hM => ?_⟩) e s (h3 i e s he hs)⟩
  · refine ⟨h2.1, h2.2.imp id ?_⟩
    rintro ⟨g, cap, cur, hv, hbg, hh, r⟩
    exact ⟨g, cap, cur, hv, hbg, by rw [hb.block g (Array.getElem?_eq_some_iff.1 hh).1 (fun hM => by have := hm g hM; omega)]; exact hh, r⟩
  · have := hm k hM
    simp only [beside, Bool.and_eq_true, decide_eq_true_eq] at hp
    omega
/-- One more, of blocks from b on. -/
theorem OwnX.snoc {w w' : World} {base b : Nat} {v v' : Value} {l : List Ex} {ss : List Value} {e : Ex} {s : Value} (h1 : ss.length = l.length)
    (h3 : ∀ (i : Nat) (e : Ex) (s : Value), l[i]? = some e → ss[i]? = some s → Ex.In (only w (beside base v)) e s)
    (he : Ex.In (only w (from_ b)) e s) (hbb : base ≤ b) (hv : ∀ g, v.ownBlock = some g → g < b)
    (ho : w'.ownsRow base 27 8 v' (l.length + 1) (zipCells l ss ++ e.cells s)) (hg : w.grownBy w' v.ownBlock) (hat : v'.ownBlock = v.ownBlock ∨ v'.ownBlock = some w.heap.size) : OwnX w' base v' (l ++ [e]) := by
  have hcell : ∀ a u, (only w (beside base v)).cell? a = some u → (only w' (beside base v')).cell? a = some u := only_cell fun k hk hp => by
    simp only [beside, Bool.and_eq_true, decide_eq_true_eq, Bool.not_eq_true', decide_eq_false_iff_not] at hp ⊢
    refine ⟨⟨hp.1, ?_⟩, hg.block k hk fun e => hp.2 e.symm⟩
    rcases hat with h | h
    · rw [h]; exact hp.2
    · rw [h]; simp; omega
  refine ⟨ss ++ [s], by simp [h1], ?_, fun i f t hf ht => ?_⟩
  · rw [zipCells_snoc l ss e s h1, List.length_append]; exact ho
  · rw [List.getElem?_append] at hf ht
    rw [← h1] at hf
    split at hf
    · rename_i hi
      rw [if_pos hi] at ht
      exact Ex.In.of_cells hcell f t (h3 i f t hf ht)
    · rename_i hi
      rw [if_neg hi] at ht
      have e0 : i - ss.length = 0 := by
        rcases Nat.eq_zero_or_pos (i - ss.length) with h | h
        · exact h
        · rw [List.getElem?_eq_none (by simp; omega)] at hf; cases hf
      rw [e0] at hf ht
      simp only [List.getElem?_cons_zero, Option.some.injEq] at hf ht
      subst hf; subst ht
      refine Ex.In.of_cells hcell e s (Ex.In.of_cells (only_cell fun k hk hp => ⟨?_, rfl⟩) e s he)
      simp only [from_, beside, Bool.and_eq_true, decide_eq_true_eq, Bool.not_eq_true', decide_eq_false_iff_not] at hp ⊢
      exact ⟨by omega, fun hk => by have := hv k hk; omega⟩
theorem Exs.At.of_row {w u : World} {g : Nat} (hu : ∀ a v, u.cell? a = some v → w.cell? a = some v) : ∀ (l : List Ex) (ss : List Value) (o : Nat), ss.length = l.length → Go.Proofs.Ytlcdjaclahhdnaa.At w g o (zipCells l ss) →
    (∀ (i : Nat) (e : Ex) (s : Value), l[i]? = some e → ss[i]? = some s → Ex.In u e s) → Exs.At w g o l
  | [], _, _, _, _, _ => by simp [Exs.At]
  | _ :: _, [], _, h, _, _ => by simp at h
  | e :: l, s :: ss, o, h, ha, hi => by
    simp only [zipCells] at ha
    obtain ⟨h1, h2⟩ := At.split ha
    simp only [Exs.At]
    exact ⟨⟨s, h1, Ex.In.of_cells hu e s (hi 0 e s rfl rfl)⟩, Exs.At.of_row hu l ss (o + 8) (by simpa using h) h2 fun i f t hf ht => hi (i + 1) f t (by simpa using hf) (by simpa using ht)⟩
/-- The parts of an expression that is done. -/
theorem OwnX.exsIn {w : World} {base : Nat} {v : Value} {l : List Ex} (h : OwnX w base v l) : ExsIn (only w (from_ base)) v l := by
  obtain ⟨ss, h1, h2, h3⟩ := h
  have hu : ∀ a u, (only w (beside base v)).cell? a = some u → (only w (from_ base)).cell? a = some u := only_cell fun k hk hp => by
    simp only [from_, beside, Bool.and_eq_true, decide_eq_true_eq] at hp ⊢
    exact ⟨hp.1, trivial⟩
  rcases h2.2 with ⟨rfl, h0⟩ | ⟨g, cap, cur, rfl, hb, hh, hc, hm, hx⟩
  · have : l = [] := List.eq_nil_of_length_eq_zero h0
    subst this
    exact ⟨by simp, none, 0, rfl, by simp, fun _ => rfl, fun h => absurd rfl h⟩
  · unfold maxLen at hm
    refine ⟨by omega, some ⟨g, 0, none⟩, cap, rfl, hc, (fun h => by cases h), fun _ => ⟨g, 0, rfl, Exs.At.of_row hu l ss 0 h1 ?_ h3⟩⟩
    refine At.of_get fun j u hu => ?_
    have h5 := World.ownsRow.cells h2 (g := g) rfl j u hu
    rw [add_at] at h5
    simp only [World.cell?] at h5 ⊢
    rw [only_get (by simp only [from_, decide_eq_true_eq]; exact hb)]
    exact h5
theorem info_ex : (Try.prog.info? 27).map (fun i => (i.zero, i.size, i.bytes)) = some (some (.agg #[.int .i64 0, .int .i64 0, .int .i64 0, .int .i64 0, .int .i64 0, .float .f64 0, .string ⟨#[]⟩, .slice none 0 0]), 8, 88) := by kernel_rfl
/-- 'append(kids, x)'. -/
theorem wpList_addX {w : World} {ops : Array Oper} {rest : List Oper} {o : Oper} {a : Act} {Q : Exit → Act → World → Prop} (hgd : o.guard = none) (x y : Operand)
    (ho : o.op = .call { callee := .builtin .append, args := #[x, y], argTypes := #[25, 25] })
    {base b : Nat} {v : Value} {l : List Ex} (hs : a.eval x = v) (hown : OwnX w base v l) (e : Ex) (s : Value) {g : Nat} (hx : a.eval y = .slice (some ⟨g, 0, none⟩) 1 1) (hg : g = w.heap.size)
    (he : Ex.In (only w (from_ b)) e s) (hbb : base ≤ b) (hv : ∀ g, v.ownBlock = some g → g < b) (hl : l.length ≤ 1000000000) (hbase : base ≤ w.heap.size) {A : Array Value} (hA : A = (e.cells s).toArray)
    (h : ∀ v' w', OwnX w' base v' (l ++ [e]) → ButS (fun k => v.ownBlock = some k) w w' → wpList Try.prog ops Q rest (a.put o.dst v') w') : wpList Try.prog ops Q (o :: rest) a (w.alloc (.cells A 27)) := by
  subst hg; subst hA
  obtain ⟨ss, h1, h2, h3⟩ := hown
  obtain ⟨i, hi1, hi2⟩ := Option.map_eq_some_iff.1 info_ex
  simp only [Prod.mk.injEq] at hi2
  refine wpList_append_own_at _ hgd x y 25 ho base 27 i _ 8 88 Try.underlying25 hi1 hi2.1 hi2.2.1 hi2.2.2 rfl (by omega) v l.length (zipCells l ss) hs (owns_ext h2 ((Ext.refl w).alloc _)) ⟨w.heap.size, 0, none⟩ 1 1 (e.cells s) hx rfl (fun j u hu => ?_) ?_ ?_ ?_ (by simp; omega) fun v' w' ho' hg' _ hat => ?_
  · rw [add_at]; exact (At.new rfl _ _ _ rfl).get j u hu
  · obtain ⟨_, A', cap', rfl, _⟩ := (Ex.In.mk_inv he).2.2.2.2
    intro u hu
    simp only [Ex.cells, exCells, List.mem_cons, List.not_mem_nil, or_false] at hu
    rcases hu with rfl | rfl | rfl | rfl | rfl | rfl | rfl | rfl <;> rfl
  · unfold maxLen; omega
  · omega
  · have hgr : w.grownBy w' v.ownBlock := ⟨hg'.os, hg'.tape, hg'.output, Nat.le_trans (by simp) hg'.size, fun k hk hn => (hg'.block k (by simp; omega) hn).trans (heap_alloc_old w _ hk)⟩
    refine h v' w' ?_ (ButS.of_grown hgr fun k hk => hk)
    have hc : ∀ p : Nat → Bool, ∀ a u, (only w p).cell? a = some u → (only (w.alloc (.cells (e.cells s).toArray 27)) p).cell? a = some u := fun p => only_cell fun k hk hp => ⟨hp, heap_alloc_old w _ hk⟩
    exact OwnX.snoc h1 (fun i f t hf ht => Ex.In.of_cells (hc _) f t (h3 i f t hf ht)) (Ex.In.of_cells (hc _) e s he) hbb hv ho' hg' hat
set_option maxRecDepth 100000 in
set_option maxHeartbeats 1000000 in
/-- expr.guarded around expr.Take's closure, that turns the blocks of M alone. -/
theorem guarded_take (M : Nat → Prop) (cap : Array Value) (w : World) (S : World → Prop) (hM : ∀ k, M k → k < w.heap.size)
    (hcall : Hid (∀ w', Ext w w' → Calls Try.prog 59 cap w' fun e u => e = .returned (.tuple #[]) ∧ ButS M w' u ∧ S u)) :
    Calls Try.prog 58 #[.func (.func 59) #[] cap] w fun e w' => e = .returned (.int .i64 0) ∧ (∃ u, S u ∧ But w.heap.size u w') ∧ ButS M w w' := by
  have hmf : ∀ (fn : Fn) (first cap : Array Value) (w : World), (Instr.makeFunc fn first cap).run Try.prog w = .ok (.func fn first cap) w := fun _ _ _ _ => rfl
  have h0 : BoxAt (w.alloc (.cells #[.int .i64 0] 35)) w.heap.size [.int .i64 0] := BoxAt.new rfl rfl
  have H0 := Lib.hid h0; clear h0
  have hng : ¬ M w.heap.size := fun h => by have := hM _ h; omega
  have HNG := Lib.hid hng; have HM := Lib.hid hM; clear hng hM
  go_enter_defers Try.func58, Try.ntmps58
  go_wp2_with (go_at_call 59; refine (hcall.out _ (by repeat (first | (with_reducible exact Ext.refl _) | (with_reducible refine Ext.set_ ?_ _ ?_; focus (first | (simp; done) | (simp; omega) | (simp at *; omega))) | (with_reducible refine Ext.alloc ?_ _) | (with_reducible refine Ext.drew ?_) | (with_reducible refine Ext.drewN ?_ _) | (with_reducible refine Ext.trans ?_ (by assumption))))).mono ?_; rintro e u ⟨rfl, hb, hs⟩; have HB := Lib.hid (ButS.box hb HNG.out H0.out); have HBU := Lib.hid hb; have HS := Lib.hid hs; obtain ⟨c0, f0, l0⟩ := hb.at_ w.heap.size (by simp) HNG.out; clear hb hs)
  have HB1 := Lib.hid (HB.out.set1 (v := .int .i64 0))
  have hc := HB1.out.cells.1
  refine leaves_cons (f := 111) (args := #[.pointer (some ⟨w.heap.size, 0, none⟩)]) (by simp) (by simp [go_sem]) ?_
  refine (catch_idle w.heap.size _).mono ?_
  rintro e u' w'' ⟨rfl, rfl, rfl⟩
  have h1 : But w.heap.size u (u.setCell ⟨w.heap.size, 0, none⟩ (.int .i64 0)) := But.set_ (p := ⟨w.heap.size, 0, none⟩) (.inr rfl) _ (But.refl _ u)
  have h2 : ButS M w (u.setCell ⟨w.heap.size, 0, none⟩ (.int .i64 0)) := ButS.set_ (p := ⟨w.heap.size, 0, none⟩) (.inl (Nat.le_refl _)) _ ((ButS.of_ext ((Ext.refl w).alloc _)).trans HBU.out)
  have h3 : ∃ x, S x ∧ But w.heap.size x (u.setCell ⟨w.heap.size, 0, none⟩ (.int .i64 0)) := ⟨u, HS.out, h1⟩
  simp [Leaves, settle, results, Try.results58, go_sem, hc, h2, h3]
end Go.Proofs.Ytlcdjaclahhdnaa
