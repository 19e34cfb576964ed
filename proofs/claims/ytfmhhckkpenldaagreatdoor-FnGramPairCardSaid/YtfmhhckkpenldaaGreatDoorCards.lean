/-
  DERIVED. GIVEN WITH THE SEED: THE CARDS: each row of YtfmhhckkpenldaaGreatDoorRows.lean that lists a variable, with what it lists TIED to the program's text (the seventh form; the later family's looks); each row that meets fmt, with fmt's text TOLD by the authors' own Lean function (tested against real Go, not proved from fmt's source: count such statements apart). THE CARD IS WHAT COUNTS. Prove the row's statement (the work); the ties are given (YtfmhhckkpenldaaGreatDoorTie.lean); close each card by the builder's one call (the guide's Derived/Test/ToyasCard.lean, 'card_holds'). Laid BY PROGRAM, IN A SANDBOX (cutbox-door.mjs). By AI agents, Wed Nov 11 2026. No macro, syntax, notation, axiom, sorry.
-/
import Derived.Test.YtfmhhckkpenldaaGreatDoorRows
import GoSem.ClaimSeven
namespace Go.Proofs.YtfmhhckkpenldaaGreatDoor
namespace Rows

/-- THE TIED CARD OF 'laws.FnGramPair'. -/
def fnGramPairCard : Claim7 := { stood := { row := fnGramPairRow, standIns := [], harness := (true, "dda51437f885338290504b4095602acd8ce0a0482ae69290732f988ca47df624"), looks := true }, kinds := [], alts := [], laidByText := true, laidKinds := [.data, .data, .data, .sentinel, .sentinel, .data], laidTests := true, laidLooks := .later }
def FnGramPairCardSaid : Prop := Claim7.holds Tryz.pinned (.plain (OpenSpec.ofChange fnGramPairSpec)) fnGramPairCard

/-- THE SECOND FORM's CARD OF 'laws.FnGramPair'. -/
def fnGramPairUptoCard : Claim7 := { stood := { row := fnGramPairUptoRow, standIns := [], harness := (true, "dda51437f885338290504b4095602acd8ce0a0482ae69290732f988ca47df624"), looks := true }, kinds := [], alts := [], laidByText := true, laidKinds := [.data, .data, .data, .sentinel, .sentinel, .data], laidTests := true, laidLooks := .later }
def FnGramPairUptoCardSaid : Prop := Claim7.holds Tryz.pinned (.plain (OpenSpec.upto fnGramPairSpec)) fnGramPairUptoCard
end Rows
end Go.Proofs.YtfmhhckkpenldaaGreatDoor
