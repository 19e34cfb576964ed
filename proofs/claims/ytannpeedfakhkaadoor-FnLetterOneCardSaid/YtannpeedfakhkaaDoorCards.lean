/-
  DERIVED. GIVEN WITH THE SEED: THE CARDS: each row of YtannpeedfakhkaaDoorRows.lean that lists a variable, with what it lists TIED to the program's text (the seventh form; the later family's looks); each row that meets fmt, with fmt's text TOLD by the authors' own Lean function (tested against real Go, not proved from fmt's source: count such statements apart). THE CARD IS WHAT COUNTS. Prove the row's statement (the work); the ties are given (YtannpeedfakhkaaDoorTie.lean); close each card by the builder's one call (the guide's Derived/Test/ToyasCard.lean, 'card_holds'). Laid BY PROGRAM, IN A SANDBOX (cutbox-door.mjs). By AI agents, Wed Nov 11 2026. No macro, syntax, notation, axiom, sorry.
-/
import Derived.Test.YtannpeedfakhkaaDoorRows
import GoSem.ClaimSeven
namespace Go.Proofs.YtannpeedfakhkaaDoor
namespace Rows

/-- THE TIED CARD OF 'laws.FnExactLetterTake'. -/
def fnExactLetterTakeCard : Claim7 := { stood := { row := fnExactLetterTakeRow, standIns := [], harness := (true, "33431eb0f6bdfef61febccd31b5f655e64539fed7a117a58ed79ed3a3ffa2508"), looks := true }, kinds := [], alts := [], laidByText := true, laidKinds := [.sentinel], laidTests := true, laidLooks := .later }
def FnExactLetterTakeCardSaid : Prop := Claim7.holds Tryd.pinned (.plain (OpenSpec.ofChange fnExactLetterTakeSpec)) fnExactLetterTakeCard

/-- THE TIED CARD OF 'laws.FnExactLetterAll'. -/
def fnExactLetterAllCard : Claim7 := { stood := { row := fnExactLetterAllRow, standIns := [], harness := (true, "33431eb0f6bdfef61febccd31b5f655e64539fed7a117a58ed79ed3a3ffa2508"), looks := true }, kinds := [], alts := [], laidByText := true, laidKinds := [.sentinel], laidTests := true, laidLooks := .later }
def FnExactLetterAllCardSaid : Prop := Claim7.holds Tryd.pinned (.plain (OpenSpec.ofChange fnExactLetterAllSpec)) fnExactLetterAllCard

/-- THE TIED CARD OF 'laws.FnLetterHead'. -/
def fnLetterHeadCard : Claim7 := { stood := { row := fnLetterHeadRow, standIns := [], harness := (true, "33431eb0f6bdfef61febccd31b5f655e64539fed7a117a58ed79ed3a3ffa2508"), looks := true }, kinds := [], alts := [], laidByText := true, laidKinds := [.sentinel], laidTests := true, laidLooks := .later }
def FnLetterHeadCardSaid : Prop := Claim7.holds Tryd.pinned (.plain (OpenSpec.ofChange fnLetterHeadSpec)) fnLetterHeadCard

/-- THE TIED CARD OF 'laws.FnLetterOne'. -/
def fnLetterOneCard : Claim7 := { stood := { row := fnLetterOneRow, standIns := [], harness := (true, "33431eb0f6bdfef61febccd31b5f655e64539fed7a117a58ed79ed3a3ffa2508"), looks := true }, kinds := [], alts := [], laidByText := true, laidKinds := [.sentinel], laidTests := true, laidLooks := .later }
def FnLetterOneCardSaid : Prop := Claim7.holds Tryd.pinned (.plain (OpenSpec.ofChange fnLetterOneSpec)) fnLetterOneCard

/-- THE TIED CARD OF 'laws.FnLetterText'. -/
def fnLetterTextCard : Claim7 := { stood := { row := fnLetterTextRow, standIns := [], harness := (true, "33431eb0f6bdfef61febccd31b5f655e64539fed7a117a58ed79ed3a3ffa2508"), looks := true }, kinds := [], alts := [], laidByText := true, laidKinds := [.sentinel], laidTests := true, laidLooks := .later }
def FnLetterTextCardSaid : Prop := Claim7.holds Tryd.pinned (.plain (OpenSpec.ofChange fnLetterTextSpec)) fnLetterTextCard

/-- THE TIED CARD OF 'laws.FnLettersText'. -/
def fnLettersTextCard : Claim7 := { stood := { row := fnLettersTextRow, standIns := [], harness := (true, "33431eb0f6bdfef61febccd31b5f655e64539fed7a117a58ed79ed3a3ffa2508"), looks := true }, kinds := [], alts := [], laidByText := true, laidKinds := [.sentinel], laidTests := true, laidLooks := .later }
def FnLettersTextCardSaid : Prop := Claim7.holds Tryd.pinned (.plain (OpenSpec.ofChange fnLettersTextSpec)) fnLettersTextCard

/-- THE TIED CARD OF 'laws.FnLetterPieces'. -/
def fnLetterPiecesCard : Claim7 := { stood := { row := fnLetterPiecesRow, standIns := [], harness := (true, "33431eb0f6bdfef61febccd31b5f655e64539fed7a117a58ed79ed3a3ffa2508"), looks := true }, kinds := [], alts := [], laidByText := true, laidKinds := [.sentinel], laidTests := true, laidLooks := .later }
def FnLetterPiecesCardSaid : Prop := Claim7.holds Tryd.pinned (.plain (OpenSpec.ofChange fnLetterPiecesSpec)) fnLetterPiecesCard

/-- THE TIED CARD OF 'laws.FnLetterTake'. -/
def fnLetterTakeCard : Claim7 := { stood := { row := fnLetterTakeRow, standIns := [], harness := (true, "33431eb0f6bdfef61febccd31b5f655e64539fed7a117a58ed79ed3a3ffa2508"), looks := true }, kinds := [], alts := [], laidByText := true, laidKinds := [.sentinel], laidTests := true, laidLooks := .later }
def FnLetterTakeCardSaid : Prop := Claim7.holds Tryd.pinned (.plain (OpenSpec.ofChange fnLetterTakeSpec)) fnLetterTakeCard

/-- THE TIED CARD OF 'laws.FnLetterAll'. -/
def fnLetterAllCard : Claim7 := { stood := { row := fnLetterAllRow, standIns := [], harness := (true, "33431eb0f6bdfef61febccd31b5f655e64539fed7a117a58ed79ed3a3ffa2508"), looks := true }, kinds := [], alts := [], laidByText := true, laidKinds := [.sentinel], laidTests := true, laidLooks := .later }
def FnLetterAllCardSaid : Prop := Claim7.holds Tryd.pinned (.plain (OpenSpec.ofChange fnLetterAllSpec)) fnLetterAllCard

/-- THE SECOND FORM's CARD OF 'laws.FnExactLetterTake'. -/
def fnExactLetterTakeUptoCard : Claim7 := { stood := { row := fnExactLetterTakeUptoRow, standIns := [], harness := (true, "33431eb0f6bdfef61febccd31b5f655e64539fed7a117a58ed79ed3a3ffa2508"), looks := true }, kinds := [], alts := [], laidByText := true, laidKinds := [.sentinel], laidTests := true, laidLooks := .later }
def FnExactLetterTakeUptoCardSaid : Prop := Claim7.holds Tryd.pinned (.plain (OpenSpec.upto fnExactLetterTakeSpec)) fnExactLetterTakeUptoCard

/-- THE SECOND FORM's CARD OF 'laws.FnExactLetterAll'. -/
def fnExactLetterAllUptoCard : Claim7 := { stood := { row := fnExactLetterAllUptoRow, standIns := [], harness := (true, "33431eb0f6bdfef61febccd31b5f655e64539fed7a117a58ed79ed3a3ffa2508"), looks := true }, kinds := [], alts := [], laidByText := true, laidKinds := [.sentinel], laidTests := true, laidLooks := .later }
def FnExactLetterAllUptoCardSaid : Prop := Claim7.holds Tryd.pinned (.plain (OpenSpec.upto fnExactLetterAllSpec)) fnExactLetterAllUptoCard

/-- THE SECOND FORM's CARD OF 'laws.FnLetterHead'. -/
def fnLetterHeadUptoCard : Claim7 := { stood := { row := fnLetterHeadUptoRow, standIns := [], harness := (true, "33431eb0f6bdfef61febccd31b5f655e64539fed7a117a58ed79ed3a3ffa2508"), looks := true }, kinds := [], alts := [], laidByText := true, laidKinds := [.sentinel], laidTests := true, laidLooks := .later }
def FnLetterHeadUptoCardSaid : Prop := Claim7.holds Tryd.pinned (.plain (OpenSpec.upto fnLetterHeadSpec)) fnLetterHeadUptoCard

/-- THE SECOND FORM's CARD OF 'laws.FnLetterOne'. -/
def fnLetterOneUptoCard : Claim7 := { stood := { row := fnLetterOneUptoRow, standIns := [], harness := (true, "33431eb0f6bdfef61febccd31b5f655e64539fed7a117a58ed79ed3a3ffa2508"), looks := true }, kinds := [], alts := [], laidByText := true, laidKinds := [.sentinel], laidTests := true, laidLooks := .later }
def FnLetterOneUptoCardSaid : Prop := Claim7.holds Tryd.pinned (.plain (OpenSpec.upto fnLetterOneSpec)) fnLetterOneUptoCard

/-- THE SECOND FORM's CARD OF 'laws.FnLetterText'. -/
def fnLetterTextUptoCard : Claim7 := { stood := { row := fnLetterTextUptoRow, standIns := [], harness := (true, "33431eb0f6bdfef61febccd31b5f655e64539fed7a117a58ed79ed3a3ffa2508"), looks := true }, kinds := [], alts := [], laidByText := true, laidKinds := [.sentinel], laidTests := true, laidLooks := .later }
def FnLetterTextUptoCardSaid : Prop := Claim7.holds Tryd.pinned (.plain (OpenSpec.upto fnLetterTextSpec)) fnLetterTextUptoCard

/-- THE SECOND FORM's CARD OF 'laws.FnLettersText'. -/
def fnLettersTextUptoCard : Claim7 := { stood := { row := fnLettersTextUptoRow, standIns := [], harness := (true, "33431eb0f6bdfef61febccd31b5f655e64539fed7a117a58ed79ed3a3ffa2508"), looks := true }, kinds := [], alts := [], laidByText := true, laidKinds := [.sentinel], laidTests := true, laidLooks := .later }
def FnLettersTextUptoCardSaid : Prop := Claim7.holds Tryd.pinned (.plain (OpenSpec.upto fnLettersTextSpec)) fnLettersTextUptoCard

/-- THE SECOND FORM's CARD OF 'laws.FnLetterPieces'. -/
def fnLetterPiecesUptoCard : Claim7 := { stood := { row := fnLetterPiecesUptoRow, standIns := [], harness := (true, "33431eb0f6bdfef61febccd31b5f655e64539fed7a117a58ed79ed3a3ffa2508"), looks := true }, kinds := [], alts := [], laidByText := true, laidKinds := [.sentinel], laidTests := true, laidLooks := .later }
def FnLetterPiecesUptoCardSaid : Prop := Claim7.holds Tryd.pinned (.plain (OpenSpec.upto fnLetterPiecesSpec)) fnLetterPiecesUptoCard

/-- THE SECOND FORM's CARD OF 'laws.FnLetterTake'. -/
def fnLetterTakeUptoCard : Claim7 := { stood := { row := fnLetterTakeUptoRow, standIns := [], harness := (true, "33431eb0f6bdfef61febccd31b5f655e64539fed7a117a58ed79ed3a3ffa2508"), looks := true }, kinds := [], alts := [], laidByText := true, laidKinds := [.sentinel], laidTests := true, laidLooks := .later }
def FnLetterTakeUptoCardSaid : Prop := Claim7.holds Tryd.pinned (.plain (OpenSpec.upto fnLetterTakeSpec)) fnLetterTakeUptoCard

/-- THE SECOND FORM's CARD OF 'laws.FnLetterAll'. -/
def fnLetterAllUptoCard : Claim7 := { stood := { row := fnLetterAllUptoRow, standIns := [], harness := (true, "33431eb0f6bdfef61febccd31b5f655e64539fed7a117a58ed79ed3a3ffa2508"), looks := true }, kinds := [], alts := [], laidByText := true, laidKinds := [.sentinel], laidTests := true, laidLooks := .later }
def FnLetterAllUptoCardSaid : Prop := Claim7.holds Tryd.pinned (.plain (OpenSpec.upto fnLetterAllSpec)) fnLetterAllUptoCard
end Rows
end Go.Proofs.YtannpeedfakhkaaDoor
