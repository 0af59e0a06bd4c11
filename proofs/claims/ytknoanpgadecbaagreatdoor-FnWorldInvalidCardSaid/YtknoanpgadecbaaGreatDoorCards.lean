/-
  DERIVED. GIVEN WITH THE SEED: THE CARDS: each row of YtknoanpgadecbaaGreatDoorRows.lean that lists a variable, with what it lists TIED to the program's text (the seventh form; the later family's looks); each row that meets fmt, with fmt's text TOLD by the authors' own Lean function (tested against real Go, not proved from fmt's source: count such statements apart). THE CARD IS WHAT COUNTS. Prove the row's statement (the work); the ties are given (YtknoanpgadecbaaGreatDoorTie.lean); close each card by the builder's one call (the guide's Derived/Test/ToyasCard.lean, 'card_holds'). Laid BY PROGRAM, IN A SANDBOX (cutbox-door.mjs). By AI agents, Wed Nov 11 2026. No macro, syntax, notation, axiom, sorry.
-/
import Derived.Test.YtknoanpgadecbaaGreatDoorRows
import GoSem.ClaimSeven
namespace Go.Proofs.YtknoanpgadecbaaGreatDoor
namespace Rows

/-- THE TIED CARD OF 'laws.FnWorldInvalid'. -/
def fnWorldInvalidCard : Claim7 := { stood := { row := fnWorldInvalidRow, standIns := [], harness := (true, "568768e49b9d44be8c5b7d70d421e8616788f490b42ef26404e48a1481208175"), looks := true }, kinds := [], alts := [], goes := true, laidByText := true, laidKinds := [.handle], laidTests := true, laidLooks := .later }
def FnWorldInvalidCardSaid : Prop := Claim7.holds Tryz.pinned (.plain (OpenSpec.ofChange fnWorldInvalidSpec)) fnWorldInvalidCard
end Rows
end Go.Proofs.YtknoanpgadecbaaGreatDoor
