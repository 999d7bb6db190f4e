/-
  NARROWER THAN 'FOR EVERY INPUT', by the rows' own cells (each row's printed sentence says how): ExprBack: loops · ExprEvals: loops · ExprBlind: loops · ExprSound: loops · ExprSides: loops · AccessZones: loops · AccessSafe: loops · AccessAnds: loops.
  DERIVED. THE GIVEN ROWS OF THIS SEAT. 10 by the template 'for every input the law returns true; each argument reads behind the call as it read before'; 0 by the template 'total and deterministic' (their statements: YtlcdjaclahhdnaaTotals.lean).
  GIVEN WITH THE SEED: the statements are not yours to turn. If you find one false, say at which input.
  Laid BY PROGRAM, IN A SANDBOX (cutbox-rows.mjs): the forced cells as the released guide's own fill.sh prints them over the translation a8c977bbde731c0e… (all of the seat's roots in one cut). By AI agents, Wed Nov 11 2026. No macro, syntax, notation, axiom, sorry.
-/
import Derived.Test.YtlcdjaclahhdnaaChecked
import GoSem.Claim
import GoSem.ClaimJoined
import GoSem.ClaimMapViews
import Derived.JoinedTies
import Derived.KernelRfl
namespace Go.Proofs.Ytlcdjaclahhdnaa
/- THE CELL 'sum', in the pinned program and in every row, IS THE sha256 OF THE DUMP (.gsa) THAT YtlcdjaclahhdnaaProg.lean LOADS. Nothing in Lean hashes anything: it is a label: what it is worth is what the hold of that sum in a sandbox is worth. -/
noncomputable def Try.pinned : Pinned := { name := "ytlcdjaclahhdnaa", sum := "a8c977bbde731c0e160d8b04d3172b66e5ceb3bdc5ec37140b326e3ecbb709b8", checked := Try.checked }
namespace Rows
def none {H : Type} : Left H := { results := [], args := [] }

/-- 'tabularylaw22.ExprBack': WHATEVER THE INPUT: true; the input reads as it did. -/
def exprBackSpec : ChangeSpec := { name := "exprBack", fn := fun _ => fun
  | [d1, d2] => { results := [.lit (.bool true)], args := [d1, d2] }
  | _ => none }
def exprBackRow : OpenClaim := { program := "ytlcdjaclahhdnaa", sum := "a8c977bbde731c0e160d8b04d3172b66e5ceb3bdc5ec37140b326e3ecbb709b8", func := "tabulary/tabularylaw22.ExprBack", spec := "exprBack", inPlace := ["math.Float64bits", "math.Float64frombits"], unfollowed := true, recurses := true, loops := true, apart := false }
def ExprBackSaid : Prop := exprBackRow.holds Try.pinned (OpenSpec.ofChange exprBackSpec)

/-- ITS FALSE NEIGHBOUR: 'it returns false'. Refute it at one input. -/
def exprBackWrong : ChangeSpec := { name := "exprBack", fn := fun _ => fun
  | [d1, d2] => { results := [.lit (.bool false)], args := [d1, d2] }
  | _ => none }
def ExprBackWrongFalsely : Prop := exprBackRow.holds Try.pinned (OpenSpec.ofChange exprBackWrong)

/-- 'tabularylaw04.ValueTotal': WHATEVER THE INPUT: true; the input reads as it did. -/
def valueTotalSpec : ChangeSpec := { name := "valueTotal", fn := fun _ => fun
  | [d1, d2, d3] => { results := [.lit (.bool true)], args := [d1, d2, d3] }
  | _ => none }
def valueTotalRow : OpenClaim := { program := "ytlcdjaclahhdnaa", sum := "a8c977bbde731c0e160d8b04d3172b66e5ceb3bdc5ec37140b326e3ecbb709b8", func := "tabulary/tabularylaw04.ValueTotal", spec := "valueTotal", inPlace := ["math.Float64bits", "math.Float64frombits"], unfollowed := true, recurses := true, apart := false }
def ValueTotalSaid : Prop := valueTotalRow.holds Try.pinned (OpenSpec.ofChange valueTotalSpec)

/-- ITS FALSE NEIGHBOUR: 'it returns false'. Refute it at one input. -/
def valueTotalWrong : ChangeSpec := { name := "valueTotal", fn := fun _ => fun
  | [d1, d2, d3] => { results := [.lit (.bool false)], args := [d1, d2, d3] }
  | _ => none }
def ValueTotalWrongFalsely : Prop := valueTotalRow.holds Try.pinned (OpenSpec.ofChange valueTotalWrong)

/-- 'tabularylaw04.ValueBack': WHATEVER THE INPUT: true; the input reads as it did. -/
def valueBackSpec : ChangeSpec := { name := "valueBack", fn := fun _ => fun
  | [d1, d2] => { results := [.lit (.bool true)], args := [d1, d2] }
  | _ => none }
def valueBackRow : OpenClaim := { program := "ytlcdjaclahhdnaa", sum := "a8c977bbde731c0e160d8b04d3172b66e5ceb3bdc5ec37140b326e3ecbb709b8", func := "tabulary/tabularylaw04.ValueBack", spec := "valueBack", inPlace := ["math.Float64bits", "math.Float64frombits"], unfollowed := true, recurses := true, apart := false }
def ValueBackSaid : Prop := valueBackRow.holds Try.pinned (OpenSpec.ofChange valueBackSpec)

/-- ITS FALSE NEIGHBOUR: 'it returns false'. Refute it at one input. -/
def valueBackWrong : ChangeSpec := { name := "valueBack", fn := fun _ => fun
  | [d1, d2] => { results := [.lit (.bool false)], args := [d1, d2] }
  | _ => none }
def ValueBackWrongFalsely : Prop := valueBackRow.holds Try.pinned (OpenSpec.ofChange valueBackWrong)

/-- 'tabularylaw22.ExprEvals': WHATEVER THE INPUT: true; the input reads as it did. -/
def exprEvalsSpec : ChangeSpec := { name := "exprEvals", fn := fun _ => fun
  | [d1, d2, d3] => { results := [.lit (.bool true)], args := [d1, d2, d3] }
  | _ => none }
def exprEvalsRow : OpenClaim := { program := "ytlcdjaclahhdnaa", sum := "a8c977bbde731c0e160d8b04d3172b66e5ceb3bdc5ec37140b326e3ecbb709b8", func := "tabulary/tabularylaw22.ExprEvals", spec := "exprEvals", inPlace := ["math.Float64bits", "math.Float64frombits"], unfollowed := true, recurses := true, loops := true, apart := false }
def ExprEvalsSaid : Prop := exprEvalsRow.holds Try.pinned (OpenSpec.ofChange exprEvalsSpec)

/-- ITS FALSE NEIGHBOUR: 'it returns false'. Refute it at one input. -/
def exprEvalsWrong : ChangeSpec := { name := "exprEvals", fn := fun _ => fun
  | [d1, d2, d3] => { results := [.lit (.bool false)], args := [d1, d2, d3] }
  | _ => none }
def ExprEvalsWrongFalsely : Prop := exprEvalsRow.holds Try.pinned (OpenSpec.ofChange exprEvalsWrong)

/-- 'tabularylaw22.ExprBlind': WHATEVER THE INPUT: true; the input reads as it did. -/
def exprBlindSpec : ChangeSpec := { name := "exprBlind", fn := fun _ => fun
  | [d1, d2, d3, d4] => { results := [.lit (.bool true)], args := [d1, d2, d3, d4] }
  | _ => none }
def exprBlindRow : OpenClaim := { program := "ytlcdjaclahhdnaa", sum := "a8c977bbde731c0e160d8b04d3172b66e5ceb3bdc5ec37140b326e3ecbb709b8", func := "tabulary/tabularylaw22.ExprBlind", spec := "exprBlind", inPlace := ["math.Float64bits", "math.Float64frombits"], unfollowed := true, recurses := true, loops := true, apart := false }
def ExprBlindSaid : Prop := exprBlindRow.holds Try.pinned (OpenSpec.ofChange exprBlindSpec)

/-- ITS FALSE NEIGHBOUR: 'it returns false'. Refute it at one input. -/
def exprBlindWrong : ChangeSpec := { name := "exprBlind", fn := fun _ => fun
  | [d1, d2, d3, d4] => { results := [.lit (.bool false)], args := [d1, d2, d3, d4] }
  | _ => none }
def ExprBlindWrongFalsely : Prop := exprBlindRow.holds Try.pinned (OpenSpec.ofChange exprBlindWrong)

/-- 'tabularylaw22.ExprSound': WHATEVER THE INPUT: true; the input reads as it did. -/
def exprSoundSpec : ChangeSpec := { name := "exprSound", fn := fun _ => fun
  | [d1, d2, d3] => { results := [.lit (.bool true)], args := [d1, d2, d3] }
  | _ => none }
def exprSoundRow : OpenClaim := { program := "ytlcdjaclahhdnaa", sum := "a8c977bbde731c0e160d8b04d3172b66e5ceb3bdc5ec37140b326e3ecbb709b8", func := "tabulary/tabularylaw22.ExprSound", spec := "exprSound", inPlace := ["math.Float64bits", "math.Float64frombits"], unfollowed := true, recurses := true, loops := true, apart := false }
def ExprSoundSaid : Prop := exprSoundRow.holds Try.pinned (OpenSpec.ofChange exprSoundSpec)

/-- ITS FALSE NEIGHBOUR: 'it returns false'. Refute it at one input. -/
def exprSoundWrong : ChangeSpec := { name := "exprSound", fn := fun _ => fun
  | [d1, d2, d3] => { results := [.lit (.bool false)], args := [d1, d2, d3] }
  | _ => none }
def ExprSoundWrongFalsely : Prop := exprSoundRow.holds Try.pinned (OpenSpec.ofChange exprSoundWrong)

/-- 'tabularylaw22.ExprSides': WHATEVER THE INPUT: true; the input reads as it did. -/
def exprSidesSpec : ChangeSpec := { name := "exprSides", fn := fun _ => fun
  | [d1, d2, d3, d4] => { results := [.lit (.bool true)], args := [d1, d2, d3, d4] }
  | _ => none }
def exprSidesRow : OpenClaim := { program := "ytlcdjaclahhdnaa", sum := "a8c977bbde731c0e160d8b04d3172b66e5ceb3bdc5ec37140b326e3ecbb709b8", func := "tabulary/tabularylaw22.ExprSides", spec := "exprSides", inPlace := ["math.Float64bits", "math.Float64frombits"], unfollowed := true, recurses := true, loops := true, apart := false }
def ExprSidesSaid : Prop := exprSidesRow.holds Try.pinned (OpenSpec.ofChange exprSidesSpec)

/-- ITS FALSE NEIGHBOUR: 'it returns false'. Refute it at one input. -/
def exprSidesWrong : ChangeSpec := { name := "exprSides", fn := fun _ => fun
  | [d1, d2, d3, d4] => { results := [.lit (.bool false)], args := [d1, d2, d3, d4] }
  | _ => none }
def ExprSidesWrongFalsely : Prop := exprSidesRow.holds Try.pinned (OpenSpec.ofChange exprSidesWrong)

/-- 'tabularylaw26.AccessZones': WHATEVER THE INPUT: true; the input reads as it did. -/
def accessZonesSpec : ChangeSpec := { name := "accessZones", fn := fun _ => fun
  | [d1, d2, d3, d4] => { results := [.lit (.bool true)], args := [d1, d2, d3, d4] }
  | _ => none }
def accessZonesRow : OpenClaim := { program := "ytlcdjaclahhdnaa", sum := "a8c977bbde731c0e160d8b04d3172b66e5ceb3bdc5ec37140b326e3ecbb709b8", func := "tabulary/tabularylaw26.AccessZones", spec := "accessZones", inPlace := ["math.Float64bits", "math.Float64frombits"], unfollowed := true, recurses := true, loops := true, apart := false }
def AccessZonesSaid : Prop := accessZonesRow.holds Try.pinned (OpenSpec.ofChange accessZonesSpec)

/-- ITS FALSE NEIGHBOUR: 'it returns false'. Refute it at one input. -/
def accessZonesWrong : ChangeSpec := { name := "accessZones", fn := fun _ => fun
  | [d1, d2, d3, d4] => { results := [.lit (.bool false)], args := [d1, d2, d3, d4] }
  | _ => none }
def AccessZonesWrongFalsely : Prop := accessZonesRow.holds Try.pinned (OpenSpec.ofChange accessZonesWrong)

/-- 'tabularylaw26.AccessSafe': WHATEVER THE INPUT: true; the input reads as it did. -/
def accessSafeSpec : ChangeSpec := { name := "accessSafe", fn := fun _ => fun
  | [d1, d2, d3] => { results := [.lit (.bool true)], args := [d1, d2, d3] }
  | _ => none }
def accessSafeRow : OpenClaim := { program := "ytlcdjaclahhdnaa", sum := "a8c977bbde731c0e160d8b04d3172b66e5ceb3bdc5ec37140b326e3ecbb709b8", func := "tabulary/tabularylaw26.AccessSafe", spec := "accessSafe", inPlace := ["math.Float64bits", "math.Float64frombits"], unfollowed := true, recurses := true, loops := true, apart := false }
def AccessSafeSaid : Prop := accessSafeRow.holds Try.pinned (OpenSpec.ofChange accessSafeSpec)

/-- ITS FALSE NEIGHBOUR: 'it returns false'. Refute it at one input. -/
def accessSafeWrong : ChangeSpec := { name := "accessSafe", fn := fun _ => fun
  | [d1, d2, d3] => { results := [.lit (.bool false)], args := [d1, d2, d3] }
  | _ => none }
def AccessSafeWrongFalsely : Prop := accessSafeRow.holds Try.pinned (OpenSpec.ofChange accessSafeWrong)

/-- 'tabularylaw26.AccessAnds': WHATEVER THE INPUT: true; the input reads as it did. -/
def accessAndsSpec : ChangeSpec := { name := "accessAnds", fn := fun _ => fun
  | [d1, d2, d3, d4] => { results := [.lit (.bool true)], args := [d1, d2, d3, d4] }
  | _ => none }
def accessAndsRow : OpenClaim := { program := "ytlcdjaclahhdnaa", sum := "a8c977bbde731c0e160d8b04d3172b66e5ceb3bdc5ec37140b326e3ecbb709b8", func := "tabulary/tabularylaw26.AccessAnds", spec := "accessAnds", inPlace := ["math.Float64bits", "math.Float64frombits"], unfollowed := true, recurses := true, loops := true, apart := false }
def AccessAndsSaid : Prop := accessAndsRow.holds Try.pinned (OpenSpec.ofChange accessAndsSpec)

/-- ITS FALSE NEIGHBOUR: 'it returns false'. Refute it at one input. -/
def accessAndsWrong : ChangeSpec := { name := "accessAnds", fn := fun _ => fun
  | [d1, d2, d3, d4] => { results := [.lit (.bool false)], args := [d1, d2, d3, d4] }
  | _ => none }
def AccessAndsWrongFalsely : Prop := accessAndsRow.holds Try.pinned (OpenSpec.ofChange accessAndsWrong)

/- THE SECOND FORM. 'bulk': how many values and letters a reading holds, each counted each time it is reached (what is shared counts as often as it is met; a slice's spare places count too). A statement '..UptoSaid' is the law's where the arguments, and the package variables that the reading takes, are together of bulk at most 1048576: NARROWER than '..Said'. Prove '..Said' where nothing that the law and all that it calls make is longer than what came in: it says more and counts as full. Else prove '..UptoSaid'. A law counts once. -/
mutual
def uptoBulk {H : Type} : DataW H → Nat
  | .lit (.string bytes) => bytes.length + 1
  | .lit _ => 1
  | .nil => 1
  | .ptr d => uptoBulk d + 1
  | .slice elems spare => uptoBulkAll elems + uptoBulkAll spare + 1
  | .agg parts => uptoBulkAll parts + 1
  | .iface _ d => uptoBulk d + 1
  | .map entries => uptoBulkEntries entries + 1
  | .held _ => 1
def uptoBulkAll {H : Type} : List (DataW H) → Nat
  | [] => 0
  | d :: r => uptoBulk d + uptoBulkAll r
def uptoBulkEntries {H : Type} : List (Lit × DataW H) → Nat
  | [] => 0
  | x :: r => uptoBulkEntry x + uptoBulkEntries r
def uptoBulkEntry {H : Type} : Lit × DataW H → Nat
  | (.string bytes, d) => bytes.length + uptoBulk d + 1
  | (_, d) => uptoBulk d + 1
 end
def uptoSmall : (H : Type) → List (DataW H) → Bool := fun _ ds => decide (uptoBulkAll ds ≤ 1048576)
def OpenSpec.upto (s : _root_.Go.ChangeSpec) : _root_.Go.OpenSpec := { _root_.Go.OpenSpec.ofChange s with cond := some uptoSmall }

/-- 'tabularylaw22.ExprBack', WHERE WHAT IT READS IS OF BULK AT MOST 1048576: true; the input reads as it did. -/
def exprBackUptoRow : OpenClaim := { program := "ytlcdjaclahhdnaa", sum := "a8c977bbde731c0e160d8b04d3172b66e5ceb3bdc5ec37140b326e3ecbb709b8", func := "tabulary/tabularylaw22.ExprBack", spec := "exprBack", inPlace := ["math.Float64bits", "math.Float64frombits"], unfollowed := true, recurses := true, loops := true, apart := false, narrowed := true }
def ExprBackUptoSaid : Prop := exprBackUptoRow.holds Try.pinned (OpenSpec.upto exprBackSpec)

/-- 'tabularylaw04.ValueTotal', WHERE WHAT IT READS IS OF BULK AT MOST 1048576: true; the input reads as it did. -/
def valueTotalUptoRow : OpenClaim := { program := "ytlcdjaclahhdnaa", sum := "a8c977bbde731c0e160d8b04d3172b66e5ceb3bdc5ec37140b326e3ecbb709b8", func := "tabulary/tabularylaw04.ValueTotal", spec := "valueTotal", inPlace := ["math.Float64bits", "math.Float64frombits"], unfollowed := true, recurses := true, apart := false, narrowed := true }
def ValueTotalUptoSaid : Prop := valueTotalUptoRow.holds Try.pinned (OpenSpec.upto valueTotalSpec)

/-- 'tabularylaw04.ValueBack', WHERE WHAT IT READS IS OF BULK AT MOST 1048576: true; the input reads as it did. -/
def valueBackUptoRow : OpenClaim := { program := "ytlcdjaclahhdnaa", sum := "a8c977bbde731c0e160d8b04d3172b66e5ceb3bdc5ec37140b326e3ecbb709b8", func := "tabulary/tabularylaw04.ValueBack", spec := "valueBack", inPlace := ["math.Float64bits", "math.Float64frombits"], unfollowed := true, recurses := true, apart := false, narrowed := true }
def ValueBackUptoSaid : Prop := valueBackUptoRow.holds Try.pinned (OpenSpec.upto valueBackSpec)

/-- 'tabularylaw22.ExprEvals', WHERE WHAT IT READS IS OF BULK AT MOST 1048576: true; the input reads as it did. -/
def exprEvalsUptoRow : OpenClaim := { program := "ytlcdjaclahhdnaa", sum := "a8c977bbde731c0e160d8b04d3172b66e5ceb3bdc5ec37140b326e3ecbb709b8", func := "tabulary/tabularylaw22.ExprEvals", spec := "exprEvals", inPlace := ["math.Float64bits", "math.Float64frombits"], unfollowed := true, recurses := true, loops := true, apart := false, narrowed := true }
def ExprEvalsUptoSaid : Prop := exprEvalsUptoRow.holds Try.pinned (OpenSpec.upto exprEvalsSpec)

/-- 'tabularylaw22.ExprBlind', WHERE WHAT IT READS IS OF BULK AT MOST 1048576: true; the input reads as it did. -/
def exprBlindUptoRow : OpenClaim := { program := "ytlcdjaclahhdnaa", sum := "a8c977bbde731c0e160d8b04d3172b66e5ceb3bdc5ec37140b326e3ecbb709b8", func := "tabulary/tabularylaw22.ExprBlind", spec := "exprBlind", inPlace := ["math.Float64bits", "math.Float64frombits"], unfollowed := true, recurses := true, loops := true, apart := false, narrowed := true }
def ExprBlindUptoSaid : Prop := exprBlindUptoRow.holds Try.pinned (OpenSpec.upto exprBlindSpec)

/-- 'tabularylaw22.ExprSound', WHERE WHAT IT READS IS OF BULK AT MOST 1048576: true; the input reads as it did. -/
def exprSoundUptoRow : OpenClaim := { program := "ytlcdjaclahhdnaa", sum := "a8c977bbde731c0e160d8b04d3172b66e5ceb3bdc5ec37140b326e3ecbb709b8", func := "tabulary/tabularylaw22.ExprSound", spec := "exprSound", inPlace := ["math.Float64bits", "math.Float64frombits"], unfollowed := true, recurses := true, loops := true, apart := false, narrowed := true }
def ExprSoundUptoSaid : Prop := exprSoundUptoRow.holds Try.pinned (OpenSpec.upto exprSoundSpec)

/-- 'tabularylaw22.ExprSides', WHERE WHAT IT READS IS OF BULK AT MOST 1048576: true; the input reads as it did. -/
def exprSidesUptoRow : OpenClaim := { program := "ytlcdjaclahhdnaa", sum := "a8c977bbde731c0e160d8b04d3172b66e5ceb3bdc5ec37140b326e3ecbb709b8", func := "tabulary/tabularylaw22.ExprSides", spec := "exprSides", inPlace := ["math.Float64bits", "math.Float64frombits"], unfollowed := true, recurses := true, loops := true, apart := false, narrowed := true }
def ExprSidesUptoSaid : Prop := exprSidesUptoRow.holds Try.pinned (OpenSpec.upto exprSidesSpec)

/-- 'tabularylaw26.AccessZones', WHERE WHAT IT READS IS OF BULK AT MOST 1048576: true; the input reads as it did. -/
def accessZonesUptoRow : OpenClaim := { program := "ytlcdjaclahhdnaa", sum := "a8c977bbde731c0e160d8b04d3172b66e5ceb3bdc5ec37140b326e3ecbb709b8", func := "tabulary/tabularylaw26.AccessZones", spec := "accessZones", inPlace := ["math.Float64bits", "math.Float64frombits"], unfollowed := true, recurses := true, loops := true, apart := false, narrowed := true }
def AccessZonesUptoSaid : Prop := accessZonesUptoRow.holds Try.pinned (OpenSpec.upto accessZonesSpec)

/-- 'tabularylaw26.AccessSafe', WHERE WHAT IT READS IS OF BULK AT MOST 1048576: true; the input reads as it did. -/
def accessSafeUptoRow : OpenClaim := { program := "ytlcdjaclahhdnaa", sum := "a8c977bbde731c0e160d8b04d3172b66e5ceb3bdc5ec37140b326e3ecbb709b8", func := "tabulary/tabularylaw26.AccessSafe", spec := "accessSafe", inPlace := ["math.Float64bits", "math.Float64frombits"], unfollowed := true, recurses := true, loops := true, apart := false, narrowed := true }
def AccessSafeUptoSaid : Prop := accessSafeUptoRow.holds Try.pinned (OpenSpec.upto accessSafeSpec)

/-- 'tabularylaw26.AccessAnds', WHERE WHAT IT READS IS OF BULK AT MOST 1048576: true; the input reads as it did. -/
def accessAndsUptoRow : OpenClaim := { program := "ytlcdjaclahhdnaa", sum := "a8c977bbde731c0e160d8b04d3172b66e5ceb3bdc5ec37140b326e3ecbb709b8", func := "tabulary/tabularylaw26.AccessAnds", spec := "accessAnds", inPlace := ["math.Float64bits", "math.Float64frombits"], unfollowed := true, recurses := true, loops := true, apart := false, narrowed := true }
def AccessAndsUptoSaid : Prop := accessAndsUptoRow.holds Try.pinned (OpenSpec.upto accessAndsSpec)

end Rows
end Go.Proofs.Ytlcdjaclahhdnaa
