/- A step of a region that draws: append of an expression onto a row of the call's own. -/
import Derived.Test.YtlcdjaclahhdnaaZoneA
import Derived.Deep.AppendLies
namespace Go.Proofs.Ytlcdjaclahhdnaa
open Go.RowKit
set_option linter.unusedSimpArgs false
set_option linter.unusedVariables false

theorem step_addX {ops : Array Oper} {o : Oper} {a : Act} {K : Act → World → Prop} {Q : Exit → Act → World → Prop} {E : Prop} {w : World} (hgd : o.guard = none) (x y : Operand)
    (ho : o.op = .call { callee := .builtin .append, args := #[x, y], argTypes := #[25, 25] })
    {base b : Nat} {v : Value} {l : List Ex} (hs : a.eval x = v) (hown : OwnX w base v l) (e : Ex) (s : Value) {g : Nat} (hx : a.eval y = .slice (some ⟨g, 0, none⟩) 1 1)
    (hb : w.heap[g]? = some (.cells (e.cells s).toArray 27 (0, 0)))
    (he : Ex.In (only w (from_ b)) e s) (hbb : base ≤ b) (hv : ∀ g, v.ownBlock = some g → g < b) (hl : l.length ≤ 1000000000) (hbase : base ≤ w.heap.size)
    (h : ∀ g' cap w', OwnX w' base (.slice (some ⟨g', 0, none⟩) (l.length + 1) cap) (l ++ [e]) → ButS (fun k => v.ownBlock = some k) w w' → K (a.put o.dst (.slice (some ⟨g', 0, none⟩) (l.length + 1) cap)) w') :
    if Region.wanted o (yielded ops a.tmps) = true then Oper.wp Try.prog o a w K Q else E := by
  obtain ⟨ss, h1, h2, h3⟩ := hown
  obtain ⟨i, hi1, hi2⟩ := Option.map_eq_some_iff.1 info_ex
  simp only [Prod.mk.injEq] at hi2
  refine step_append_lies w hgd x y 25 ho base 27 i _ 8 88 Try.underlying25 hi1 hi2.1 hi2.2.1 hi2.2.2 rfl (by omega) v l.length (zipCells l ss) hs h2 ⟨g, 0, none⟩ 1 1 (e.cells s) hx rfl (fun j u hu => World.news_of_block hb j u (by simpa using hu)) ?_ (by omega) ?_ (by omega) hbase _ rfl fun g' cap w' ho' hg' hat hlt => ?_
  · obtain ⟨_, A', cap', rfl, _⟩ := (Ex.In.mk_inv he).2.2.2.2
    intro u hu
    simp only [Ex.cells, exCells, List.mem_cons, List.not_mem_nil, or_false] at hu
    rcases hu with rfl | rfl | rfl | rfl | rfl | rfl | rfl | rfl <;> rfl
  · unfold maxLen; omega
  · refine h g' cap w' (OwnX.snoc h1 h3 he hbb hv ho' hg' ?_) (ButS.of_grown hg' fun k hk => hk)
    rcases hat with h | rfl
    · left; rw [h]; rfl
    · right; rfl
end Go.Proofs.Ytlcdjaclahhdnaa
