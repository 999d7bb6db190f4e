/- Laws of regions that draw, the operation's own form asked first: a try at another operation fails at once. -/
import Derived.Test.YtlcdjaclahhdnaaEv
namespace Go.Proofs.Ytlcdjaclahhdnaa
open Go.RowKit
set_option linter.unusedSimpArgs false
set_option linter.unusedVariables false

section
variable {P : Program} {C : World → Prop} {ops : Array Oper} {rest : List Oper} {o : Oper} {a : Act} {Q : Act → Prop} {g : Nat}
theorem quiet_cell2 (x : Operand) {t : TypeId} (ho : o.op = .load t x) (hw : Region.wanted o (yielded ops a.tmps) = true) {f : Nat} {v : Value} {d : TypeDesc} (hu : P.underlying t = some d) (hd : d.isRow = false) (hx : a.eval x = .pointer (some ⟨g, f, none⟩)) (hc : ∀ w, C w → w.cell? ⟨g, f, none⟩ = some v)
    (h : wpQuiet P ops C Q rest (a.put o.dst v)) : wpQuiet P ops C Q (o :: rest) a := quiet_cell hw x hu hd ho hx hc h
theorem quiet_loadA2 (x : Operand) {t : TypeId} (ho : o.op = .load t x) (hw : Region.wanted o (yielded ops a.tmps) = true) {f : Nat} {vs : List Value} (hk : aggOk P t vs.length = true) (hx : a.eval x = .pointer (some ⟨g, f, none⟩)) (hc : ∀ w, C w → At w g f vs)
    (h : wpQuiet P ops C Q rest (a.put o.dst (.agg vs.toArray))) : wpQuiet P ops C Q (o :: rest) a := quiet_loadA hw x hk ho hx hc h
theorem quiet_idxS2 {t e : TypeId} {size f n c i : Nat} {k : IntKind} (x y : Operand) (ho : o.op = .indexAddr t x y) (hw : Region.wanted o (yielded ops a.tmps) = true)
    (ht : P.underlying t = some (.slice e)) (hz : (P.info? e).map (·.size) = some size) (hx : a.eval x = .slice (some ⟨g, f, none⟩) n c) (hy : a.eval y = .int k (i : Int)) (hi : i < n)
    (h : wpQuiet P ops C Q rest (a.put o.dst (.pointer (some ⟨g, f + i * size, none⟩)))) : wpQuiet P ops C Q (o :: rest) a := quiet_idxS hw ht hz x y ho hx hy hi h
end
end Go.Proofs.Ytlcdjaclahhdnaa
