/-
  DERIVED. GIVEN WITH THE SEED: THE CARDS: each row of YtbhocdmfmnlniaaDoorRows.lean that lists a variable, with what it lists TIED to the program's text (the seventh form; the later family's looks); each row that meets fmt, with fmt's text TOLD by the authors' own Lean function (tested against real Go, not proved from fmt's source: count such statements apart). THE CARD IS WHAT COUNTS. Prove the row's statement (the work); the ties are given (YtbhocdmfmnlniaaDoorTie.lean); close each card by the builder's one call (the guide's Derived/Test/ToyasCard.lean, 'card_holds'). Laid BY PROGRAM, IN A SANDBOX (cutbox-door.mjs). By AI agents, Wed Nov 11 2026. No macro, syntax, notation, axiom, sorry.
-/
import Derived.Test.YtbhocdmfmnlniaaDoorRows
import GoSem.ClaimSeven
namespace Go.Proofs.YtbhocdmfmnlniaaDoor
namespace Rows

/-- THE TIED CARD OF 'laws.FnExactGramStep'. -/
def fnExactGramStepCard : Claim7 := { stood := { row := fnExactGramStepRow, standIns := [], harness := (true, "d41239489344c0662bd34a237d90e799fcf921db20ec0e31199bd6abe4c1385e"), looks := true }, kinds := [], alts := [], laidByText := true, laidKinds := [.data, .data, .data, .sentinel, .sentinel, .data], laidTests := true, laidLooks := .later }
def FnExactGramStepCardSaid : Prop := Claim7.holds Tryd.pinned (.plain (OpenSpec.ofChange fnExactGramStepSpec)) fnExactGramStepCard

/-- THE TIED CARD OF 'laws.FnExactGramAll'. -/
def fnExactGramAllCard : Claim7 := { stood := { row := fnExactGramAllRow, standIns := [], harness := (true, "d41239489344c0662bd34a237d90e799fcf921db20ec0e31199bd6abe4c1385e"), looks := true }, kinds := [], alts := [], laidByText := true, laidKinds := [.data, .data, .data, .sentinel, .sentinel, .data], laidTests := true, laidLooks := .later }
def FnExactGramAllCardSaid : Prop := Claim7.holds Tryd.pinned (.plain (OpenSpec.ofChange fnExactGramAllSpec)) fnExactGramAllCard

/-- THE TIED CARD OF 'laws.FnGramStep'. -/
def fnGramStepCard : Claim7 := { stood := { row := fnGramStepRow, standIns := [], harness := (true, "d41239489344c0662bd34a237d90e799fcf921db20ec0e31199bd6abe4c1385e"), looks := true }, kinds := [], alts := [], laidByText := true, laidKinds := [.data, .data, .data, .sentinel, .sentinel, .data], laidTests := true, laidLooks := .later }
def FnGramStepCardSaid : Prop := Claim7.holds Tryd.pinned (.plain (OpenSpec.ofChange fnGramStepSpec)) fnGramStepCard

/-- THE TIED CARD OF 'laws.FnExactGramText'. -/
def fnExactGramTextCard : Claim7 := { stood := { row := fnExactGramTextRow, standIns := [], harness := (true, "d41239489344c0662bd34a237d90e799fcf921db20ec0e31199bd6abe4c1385e"), looks := true }, kinds := [], alts := [], laidByText := true, laidKinds := [.data, .data, .data, .sentinel, .sentinel, .sentinel, .data], laidTests := true, laidLooks := .later }
def FnExactGramTextCardSaid : Prop := Claim7.holds Tryd.pinned (.plain (OpenSpec.ofChange fnExactGramTextSpec)) fnExactGramTextCard

/-- THE SECOND FORM's CARD OF 'laws.FnExactGramStep'. -/
def fnExactGramStepUptoCard : Claim7 := { stood := { row := fnExactGramStepUptoRow, standIns := [], harness := (true, "d41239489344c0662bd34a237d90e799fcf921db20ec0e31199bd6abe4c1385e"), looks := true }, kinds := [], alts := [], laidByText := true, laidKinds := [.data, .data, .data, .sentinel, .sentinel, .data], laidTests := true, laidLooks := .later }
def FnExactGramStepUptoCardSaid : Prop := Claim7.holds Tryd.pinned (.plain (OpenSpec.upto fnExactGramStepSpec)) fnExactGramStepUptoCard

/-- THE SECOND FORM's CARD OF 'laws.FnExactGramAll'. -/
def fnExactGramAllUptoCard : Claim7 := { stood := { row := fnExactGramAllUptoRow, standIns := [], harness := (true, "d41239489344c0662bd34a237d90e799fcf921db20ec0e31199bd6abe4c1385e"), looks := true }, kinds := [], alts := [], laidByText := true, laidKinds := [.data, .data, .data, .sentinel, .sentinel, .data], laidTests := true, laidLooks := .later }
def FnExactGramAllUptoCardSaid : Prop := Claim7.holds Tryd.pinned (.plain (OpenSpec.upto fnExactGramAllSpec)) fnExactGramAllUptoCard

/-- THE SECOND FORM's CARD OF 'laws.FnGramStep'. -/
def fnGramStepUptoCard : Claim7 := { stood := { row := fnGramStepUptoRow, standIns := [], harness := (true, "d41239489344c0662bd34a237d90e799fcf921db20ec0e31199bd6abe4c1385e"), looks := true }, kinds := [], alts := [], laidByText := true, laidKinds := [.data, .data, .data, .sentinel, .sentinel, .data], laidTests := true, laidLooks := .later }
def FnGramStepUptoCardSaid : Prop := Claim7.holds Tryd.pinned (.plain (OpenSpec.upto fnGramStepSpec)) fnGramStepUptoCard

/-- THE SECOND FORM's CARD OF 'laws.FnExactGramText'. -/
def fnExactGramTextUptoCard : Claim7 := { stood := { row := fnExactGramTextUptoRow, standIns := [], harness := (true, "d41239489344c0662bd34a237d90e799fcf921db20ec0e31199bd6abe4c1385e"), looks := true }, kinds := [], alts := [], laidByText := true, laidKinds := [.data, .data, .data, .sentinel, .sentinel, .sentinel, .data], laidTests := true, laidLooks := .later }
def FnExactGramTextUptoCardSaid : Prop := Claim7.holds Tryd.pinned (.plain (OpenSpec.upto fnExactGramTextSpec)) fnExactGramTextUptoCard
end Rows
end Go.Proofs.YtbhocdmfmnlniaaDoor
