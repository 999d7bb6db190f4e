/-
  DERIVED. GIVEN WITH THE SEED: THE CARDS: each row of YtlcdjaclahhdnaaDoorRows.lean that lists a variable, with what it lists TIED to the program's text (the seventh form; the later family's looks); each row that meets fmt, with fmt's text TOLD by the authors' own Lean function (tested against real Go, not proved from fmt's source: count such statements apart). THE CARD IS WHAT COUNTS. Prove the row's statement (the work); the ties are given (YtlcdjaclahhdnaaDoorTie.lean); close each card by the builder's one call (the guide's Derived/Test/ToyasCard.lean, 'card_holds'). Laid BY PROGRAM, IN A SANDBOX (cutbox-door.mjs). By AI agents, Wed Nov 11 2026. No macro, syntax, notation, axiom, sorry.
-/
import Derived.Test.YtlcdjaclahhdnaaDoorRows
import GoSem.ClaimSeven
namespace Go.Proofs.YtlcdjaclahhdnaaDoor
namespace Rows

/-- THE TIED CARD OF 'tabularylaw17.HllSets'. -/
def hllSetsCard : Claim7 := { stood := { row := hllSetsRow, standIns := [], harness := (true, "2f9889031ab6d25f51e65b927327e51e3c9b12f116b8c7751ee7778b176c2ebb"), looks := false }, kinds := [], alts := [], laidByText := true, laidKinds := [.data], laidTests := true, laidLooks := .later }
def HllSetsCardSaid : Prop := Claim7.holds Tryd.pinned (.plain (OpenSpec.ofChange hllSetsSpec)) hllSetsCard

/-- THE TIED CARD OF 'tabularylaw17.HllGrows'. -/
def hllGrowsCard : Claim7 := { stood := { row := hllGrowsRow, standIns := [], harness := (true, "2f9889031ab6d25f51e65b927327e51e3c9b12f116b8c7751ee7778b176c2ebb"), looks := false }, kinds := [], alts := [], laidByText := true, laidKinds := [.data], laidTests := true, laidLooks := .later }
def HllGrowsCardSaid : Prop := Claim7.holds Tryd.pinned (.plain (OpenSpec.ofChange hllGrowsSpec)) hllGrowsCard

/-- THE SECOND FORM's CARD OF 'tabularylaw17.HllSets'. -/
def hllSetsUptoCard : Claim7 := { stood := { row := hllSetsUptoRow, standIns := [], harness := (true, "2f9889031ab6d25f51e65b927327e51e3c9b12f116b8c7751ee7778b176c2ebb"), looks := false }, kinds := [], alts := [], laidByText := true, laidKinds := [.data], laidTests := true, laidLooks := .later }
def HllSetsUptoCardSaid : Prop := Claim7.holds Tryd.pinned (.plain (OpenSpec.upto hllSetsSpec)) hllSetsUptoCard

/-- THE SECOND FORM's CARD OF 'tabularylaw17.HllGrows'. -/
def hllGrowsUptoCard : Claim7 := { stood := { row := hllGrowsUptoRow, standIns := [], harness := (true, "2f9889031ab6d25f51e65b927327e51e3c9b12f116b8c7751ee7778b176c2ebb"), looks := false }, kinds := [], alts := [], laidByText := true, laidKinds := [.data], laidTests := true, laidLooks := .later }
def HllGrowsUptoCardSaid : Prop := Claim7.holds Tryd.pinned (.plain (OpenSpec.upto hllGrowsSpec)) hllGrowsUptoCard
end Rows
end Go.Proofs.YtlcdjaclahhdnaaDoor
