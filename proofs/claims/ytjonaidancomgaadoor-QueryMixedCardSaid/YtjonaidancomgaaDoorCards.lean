/-
  DERIVED. GIVEN WITH THE SEED: THE CARDS: each row of YtjonaidancomgaaDoorRows.lean that lists a variable, with what it lists TIED to the program's text (the seventh form; the later family's looks); each row that meets fmt, with fmt's text TOLD by the authors' own Lean function (tested against real Go, not proved from fmt's source: count such statements apart). THE CARD IS WHAT COUNTS. Prove the row's statement (the work); the ties are given (YtjonaidancomgaaDoorTie.lean); close each card by the builder's one call (the guide's Derived/Test/ToyasCard.lean, 'card_holds'). Laid BY PROGRAM, IN A SANDBOX (cutbox-door.mjs). By AI agents, Wed Nov 11 2026. No macro, syntax, notation, axiom, sorry.
-/
import Derived.Test.YtjonaidancomgaaDoorRows
import GoSem.ClaimSeven
namespace Go.Proofs.YtjonaidancomgaaDoor
namespace Rows

/-- THE TIED CARD OF 'sizarlaw50.QueryMixed'. -/
def queryMixedCard : Claim7 := { stood := { row := queryMixedRow, standIns := [], harness := (true, "287c97bee20513782668854f44c62ca9204f07e8758edff40ca869ad296c5f66"), looks := true }, kinds := [], alts := [], laidByText := true, laidKinds := [.data, .data, .data, .sentinel, .sentinel, .data], laidTests := true, laidLooks := .later }
def QueryMixedCardSaid : Prop := Claim7.holds Tryd.pinned (.plain (OpenSpec.ofChange queryMixedSpec)) queryMixedCard

/-- THE SECOND FORM's CARD OF 'sizarlaw50.QueryMixed'. -/
def queryMixedUptoCard : Claim7 := { stood := { row := queryMixedUptoRow, standIns := [], harness := (true, "287c97bee20513782668854f44c62ca9204f07e8758edff40ca869ad296c5f66"), looks := true }, kinds := [], alts := [], laidByText := true, laidKinds := [.data, .data, .data, .sentinel, .sentinel, .data], laidTests := true, laidLooks := .later }
def QueryMixedUptoCardSaid : Prop := Claim7.holds Tryd.pinned (.plain (OpenSpec.upto queryMixedSpec)) queryMixedUptoCard
end Rows
end Go.Proofs.YtjonaidancomgaaDoor
