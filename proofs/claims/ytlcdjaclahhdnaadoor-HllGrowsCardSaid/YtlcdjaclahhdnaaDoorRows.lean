/-
  NARROWER THAN 'FOR EVERY INPUT', by the rows' own cells (each row's printed sentence says how): HllSets: laid · HllGrows: laid.
  DERIVED. THE GIVEN ROWS OF THIS SEAT. 2 by the template 'for every input the law returns true; each argument reads behind the call as it read before'; 0 by the template 'total and deterministic' (their statements: YtlcdjaclahhdnaaDoorTotals.lean).
  GIVEN WITH THE SEED: the statements are not yours to turn. If you find one false, say at which input.
  Laid BY PROGRAM, IN A SANDBOX (cutbox-rows.mjs): the forced cells as the released guide's own fill.sh prints them over the translation e117ab9cc6556093… (all of the seat's roots in one cut). By AI agents, Wed Nov 11 2026. No macro, syntax, notation, axiom, sorry.
-/
import Derived.Test.YtlcdjaclahhdnaaDoorChecked
import GoSem.Claim
import GoSem.ClaimJoined
import GoSem.ClaimMapViews
import Derived.JoinedTies
import Derived.KernelRfl
namespace Go.Proofs.YtlcdjaclahhdnaaDoor
/- THE CELL 'sum', in the pinned program and in every row, IS THE sha256 OF THE DUMP (.gsa) THAT YtlcdjaclahhdnaaDoorProg.lean LOADS. Nothing in Lean hashes anything: it is a label: what it is worth is what the hold of that sum in a sandbox is worth. -/
noncomputable def Tryd.pinned : Pinned := { name := "ytlcdjaclahhdnaadoor", sum := "e117ab9cc65560935255ab8f2a8d0a3ea6cbca4c3723abd64d55a98ba5f2861c", checked := Tryd.checked }
namespace Rows
def none {H : Type} : Left H := { results := [], args := [] }

/- WHAT THE LISTED PACKAGE-LEVEL VARIABLES READ AS WHEN THE CALL BEGINS. Each datum BY PROGRAM (the guide's laid-datum.mjs) off the statement by which the dump's own 'gosem.cut.vars' lays the variable. In a bare row this is a premise. The card (YtlcdjaclahhdnaaDoorCards.lean) ties it to the program's text. -/
def laid_tabulary_hll_few {H : Type} : DataW H := .agg [.lit (.int .u16 0), .lit (.int .u16 266), .lit (.int .u16 222), .lit (.int .u16 196), .lit (.int .u16 177), .lit (.int .u16 163), .lit (.int .u16 151), .lit (.int .u16 142), .lit (.int .u16 133), .lit (.int .u16 126), .lit (.int .u16 119), .lit (.int .u16 113), .lit (.int .u16 107), .lit (.int .u16 102), .lit (.int .u16 97), .lit (.int .u16 93), .lit (.int .u16 89), .lit (.int .u16 85), .lit (.int .u16 81), .lit (.int .u16 78), .lit (.int .u16 74), .lit (.int .u16 71), .lit (.int .u16 68), .lit (.int .u16 65), .lit (.int .u16 63), .lit (.int .u16 60), .lit (.int .u16 58), .lit (.int .u16 55), .lit (.int .u16 53), .lit (.int .u16 51), .lit (.int .u16 48), .lit (.int .u16 46), .lit (.int .u16 44), .lit (.int .u16 42), .lit (.int .u16 40), .lit (.int .u16 39), .lit (.int .u16 37), .lit (.int .u16 35), .lit (.int .u16 33), .lit (.int .u16 32), .lit (.int .u16 30), .lit (.int .u16 28), .lit (.int .u16 27), .lit (.int .u16 25), .lit (.int .u16 24), .lit (.int .u16 23), .lit (.int .u16 21), .lit (.int .u16 20), .lit (.int .u16 18), .lit (.int .u16 17), .lit (.int .u16 16), .lit (.int .u16 15), .lit (.int .u16 13), .lit (.int .u16 12), .lit (.int .u16 11), .lit (.int .u16 10), .lit (.int .u16 9), .lit (.int .u16 7), .lit (.int .u16 6), .lit (.int .u16 5), .lit (.int .u16 4), .lit (.int .u16 3), .lit (.int .u16 2), .lit (.int .u16 1), .lit (.int .u16 0)]

/-- 'tabularylaw17.HllSets': WHATEVER THE INPUT: true; the input reads as it did. -/
def hllSetsSpec : ChangeSpec := { name := "hllSets", fn := fun _ => fun
  | [d1, d2, d3] => { results := [.lit (.bool true)], args := [d1, d2, d3] }
  | _ => none }
def hllSetsRow : OpenClaim := { program := "ytlcdjaclahhdnaadoor", sum := "e117ab9cc65560935255ab8f2a8d0a3ea6cbca4c3723abd64d55a98ba5f2861c", func := "tabulary/tabularylaw17.HllSets", spec := "hllSets", inPlace := ["math.Float64bits", "math.Float64frombits"], named := ["tabulary/hll.few"], apart := false, laid := [("tabulary/hll.few", laid_tabulary_hll_few)] }
def HllSetsSaid : Prop := hllSetsRow.holds Tryd.pinned (OpenSpec.ofChange hllSetsSpec)

/-- ITS FALSE NEIGHBOUR: 'it returns false'. Refute it at one input. -/
def hllSetsWrong : ChangeSpec := { name := "hllSets", fn := fun _ => fun
  | [d1, d2, d3] => { results := [.lit (.bool false)], args := [d1, d2, d3] }
  | _ => none }
def HllSetsWrongFalsely : Prop := hllSetsRow.holds Tryd.pinned (OpenSpec.ofChange hllSetsWrong)

/-- 'tabularylaw17.HllGrows': WHATEVER THE INPUT: true; the input reads as it did. -/
def hllGrowsSpec : ChangeSpec := { name := "hllGrows", fn := fun _ => fun
  | [d1, d2] => { results := [.lit (.bool true)], args := [d1, d2] }
  | _ => none }
def hllGrowsRow : OpenClaim := { program := "ytlcdjaclahhdnaadoor", sum := "e117ab9cc65560935255ab8f2a8d0a3ea6cbca4c3723abd64d55a98ba5f2861c", func := "tabulary/tabularylaw17.HllGrows", spec := "hllGrows", inPlace := ["math.Float64bits", "math.Float64frombits"], named := ["tabulary/hll.few"], apart := false, laid := [("tabulary/hll.few", laid_tabulary_hll_few)] }
def HllGrowsSaid : Prop := hllGrowsRow.holds Tryd.pinned (OpenSpec.ofChange hllGrowsSpec)

/-- ITS FALSE NEIGHBOUR: 'it returns false'. Refute it at one input. -/
def hllGrowsWrong : ChangeSpec := { name := "hllGrows", fn := fun _ => fun
  | [d1, d2] => { results := [.lit (.bool false)], args := [d1, d2] }
  | _ => none }
def HllGrowsWrongFalsely : Prop := hllGrowsRow.holds Tryd.pinned (OpenSpec.ofChange hllGrowsWrong)

/- THE SECOND FORM. 'bulk': how many values and letters a reading holds, each counted each time it is reached (what is shared counts as often as it is met; a slice's spare places count too). A statement '..UptoSaid' is the law's where the arguments, and the package variables that the reading takes, are together of bulk at most 1048576: NARROWER than '..Said'. Prove '..Said' where nothing that the law and all that it calls make is longer than what came in: it says more and counts as full. Else prove '..UptoSaid'. A law counts once. -/
mutual
def uptoBulk {H : Type} : DataW H → Nat
  | .lit (.string bytes) => bytes.length + 1
  | .lit _ => 1
  | .nil => 1
  | .ptr d => uptoBulk d + 1
  | .slice elems spare => uptoBulkAll elems + uptoBulkAll spare + 1
  | .agg parts => uptoBulkAll parts + 1
  | .iface _ d => uptoBulk d + 1
  | .map entries => uptoBulkEntries entries + 1
  | .held _ => 1
def uptoBulkAll {H : Type} : List (DataW H) → Nat
  | [] => 0
  | d :: r => uptoBulk d + uptoBulkAll r
def uptoBulkEntries {H : Type} : List (Lit × DataW H) → Nat
  | [] => 0
  | x :: r => uptoBulkEntry x + uptoBulkEntries r
def uptoBulkEntry {H : Type} : Lit × DataW H → Nat
  | (.string bytes, d) => bytes.length + uptoBulk d + 1
  | (_, d) => uptoBulk d + 1
 end
def uptoSmall : (H : Type) → List (DataW H) → Bool := fun _ ds => decide (uptoBulkAll ds ≤ 1048576)
def OpenSpec.upto (s : _root_.Go.ChangeSpec) : _root_.Go.OpenSpec := { _root_.Go.OpenSpec.ofChange s with cond := some uptoSmall }

/-- 'tabularylaw17.HllSets', WHERE WHAT IT READS IS OF BULK AT MOST 1048576: true; the input reads as it did. -/
def hllSetsUptoRow : OpenClaim := { program := "ytlcdjaclahhdnaadoor", sum := "e117ab9cc65560935255ab8f2a8d0a3ea6cbca4c3723abd64d55a98ba5f2861c", func := "tabulary/tabularylaw17.HllSets", spec := "hllSets", inPlace := ["math.Float64bits", "math.Float64frombits"], named := ["tabulary/hll.few"], apart := false, laid := [("tabulary/hll.few", laid_tabulary_hll_few)], narrowed := true }
def HllSetsUptoSaid : Prop := hllSetsUptoRow.holds Tryd.pinned (OpenSpec.upto hllSetsSpec)

/-- 'tabularylaw17.HllGrows', WHERE WHAT IT READS IS OF BULK AT MOST 1048576: true; the input reads as it did. -/
def hllGrowsUptoRow : OpenClaim := { program := "ytlcdjaclahhdnaadoor", sum := "e117ab9cc65560935255ab8f2a8d0a3ea6cbca4c3723abd64d55a98ba5f2861c", func := "tabulary/tabularylaw17.HllGrows", spec := "hllGrows", inPlace := ["math.Float64bits", "math.Float64frombits"], named := ["tabulary/hll.few"], apart := false, laid := [("tabulary/hll.few", laid_tabulary_hll_few)], narrowed := true }
def HllGrowsUptoSaid : Prop := hllGrowsUptoRow.holds Tryd.pinned (OpenSpec.upto hllGrowsSpec)

end Rows
end Go.Proofs.YtlcdjaclahhdnaaDoor
