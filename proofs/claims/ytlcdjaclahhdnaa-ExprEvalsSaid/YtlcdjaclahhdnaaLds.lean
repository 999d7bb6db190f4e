/- A struct loaded, an element's address, in an operation list: what the operation is is asked first (an arm that does not fit fails at once). -/
import Derived.Test.YtlcdjaclahhdnaaSlc
namespace Go.Proofs.Ytlcdjaclahhdnaa
open Go.RowKit
set_option linter.unusedSimpArgs false
set_option linter.unusedVariables false
section
variable {P : Program} {w : World} {ops : Array Oper} {rest : List Oper} {o : Oper} {a : Act} {Q : Exit → Act → World → Prop}
theorem wpList_ldA (x : Operand) {t : TypeId} {g f : Nat} {vs : List Value} (ho : o.op = .load t x) (hw : Region.wanted o (yielded ops a.tmps) = true) (hk : aggOk P t vs.length = true) (hx : a.eval x = .pointer (some ⟨g, f, none⟩)) (hc : At w g f vs)
    (h : wpList P ops Q rest (a.put o.dst (.agg vs.toArray)) w) : wpList P ops Q (o :: rest) a w :=
  wpList_wish hw fun K hK => wp_loadA hk x ho hx hc (hK _ _ h)
theorem wpList_ixS (x y : Operand) {t e : TypeId} {size g f n c i : Nat} {k : IntKind} (ho : o.op = .indexAddr t x y) (hw : Region.wanted o (yielded ops a.tmps) = true) (ht : P.underlying t = some (.slice e)) (hz : (P.info? e).map (·.size) = some size)
    (hx : a.eval x = .slice (some ⟨g, f, none⟩) n c) (hy : a.eval y = .int k (i : Int)) (hi : i < n)
    (h : wpList P ops Q rest (a.put o.dst (.pointer (some ⟨g, f + i * size, none⟩))) w) : wpList P ops Q (o :: rest) a w :=
  wpList_wish hw fun K hK => wp_idxS ht hz x y ho hx hy hi (hK _ _ h)
end
end Go.Proofs.Ytlcdjaclahhdnaa
