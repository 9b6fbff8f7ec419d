/-
  DERIVED. GIVEN WITH THE SEED: THE CARDS: each row of YtgefikehhcgdnaaGreatDoorRows.lean that lists a variable, with what it lists TIED to the program's text (the seventh form; the later family's looks); each row that meets fmt, with fmt's text TOLD by the authors' own Lean function (tested against real Go, not proved from fmt's source: count such statements apart). THE CARD IS WHAT COUNTS. Prove the row's statement (the work); the ties are given (YtgefikehhcgdnaaGreatDoorTie.lean); close each card by the builder's one call (the guide's Derived/Test/ToyasCard.lean, 'card_holds'). Laid BY PROGRAM, IN A SANDBOX (cutbox-door.mjs). By AI agents, Wed Nov 11 2026. No macro, syntax, notation, axiom, sorry.
-/
import Derived.Test.YtgefikehhcgdnaaGreatDoorRows
import GoSem.ClaimSeven
namespace Go.Proofs.YtgefikehhcgdnaaGreatDoor
namespace Rows

/-- THE TIED CARD OF 'gatepostlaw24.OriginCuts'. -/
def originCutsCard : Claim7 := { stood := { row := originCutsRow, standIns := [], harness := (true, "c6ee50345aa8a21c7803cf005a10e9be0a4adda9f558b88cac91f457e4ab29c2"), looks := true }, kinds := [], alts := [], laidByText := true, laidKinds := [.data, .data, .data, .data, .pinned], laidTests := true, laidLooks := .later }
def OriginCutsCardSaid : Prop := Claim7.holds Tryz.pinned (.plain (OpenSpec.ofChange originCutsSpec)) originCutsCard

/-- THE TIED CARD OF 'gatepostlaw24.OriginRules'. -/
def originRulesCard : Claim7 := { stood := { row := originRulesRow, standIns := [], harness := (true, "c6ee50345aa8a21c7803cf005a10e9be0a4adda9f558b88cac91f457e4ab29c2"), looks := true }, kinds := [], alts := [], laidByText := true, laidKinds := [.data, .data, .data, .data, .pinned], laidTests := true, laidLooks := .later }
def OriginRulesCardSaid : Prop := Claim7.holds Tryz.pinned (.plain (OpenSpec.ofChange originRulesSpec)) originRulesCard

/-- THE TIED CARD OF 'gatepostlaw24.OriginAnswers'. -/
def originAnswersCard : Claim7 := { stood := { row := originAnswersRow, standIns := [], harness := (true, "c6ee50345aa8a21c7803cf005a10e9be0a4adda9f558b88cac91f457e4ab29c2"), looks := true }, kinds := [], alts := [], laidByText := true, laidKinds := [.data, .data, .data, .data, .pinned], laidTests := true, laidLooks := .later }
def OriginAnswersCardSaid : Prop := Claim7.holds Tryz.pinned (.plain (OpenSpec.ofChange originAnswersSpec)) originAnswersCard

/-- THE TIED CARD OF 'gatepostlaw24.OriginParts'. -/
def originPartsCard : Claim7 := { stood := { row := originPartsRow, standIns := [], harness := (true, "c6ee50345aa8a21c7803cf005a10e9be0a4adda9f558b88cac91f457e4ab29c2"), looks := true }, kinds := [], alts := [], laidByText := true, laidKinds := [.data, .data, .data, .data, .sentinel, .sentinel, .pinned], laidTests := true, laidLooks := .later }
def OriginPartsCardSaid : Prop := Claim7.holds Tryz.pinned (.plain (OpenSpec.ofChange originPartsSpec)) originPartsCard

/-- THE SECOND FORM's CARD OF 'gatepostlaw24.OriginCuts'. -/
def originCutsUptoCard : Claim7 := { stood := { row := originCutsUptoRow, standIns := [], harness := (true, "c6ee50345aa8a21c7803cf005a10e9be0a4adda9f558b88cac91f457e4ab29c2"), looks := true }, kinds := [], alts := [], laidByText := true, laidKinds := [.data, .data, .data, .data, .pinned], laidTests := true, laidLooks := .later }
def OriginCutsUptoCardSaid : Prop := Claim7.holds Tryz.pinned (.plain (OpenSpec.upto originCutsSpec)) originCutsUptoCard

/-- THE SECOND FORM's CARD OF 'gatepostlaw24.OriginRules'. -/
def originRulesUptoCard : Claim7 := { stood := { row := originRulesUptoRow, standIns := [], harness := (true, "c6ee50345aa8a21c7803cf005a10e9be0a4adda9f558b88cac91f457e4ab29c2"), looks := true }, kinds := [], alts := [], laidByText := true, laidKinds := [.data, .data, .data, .data, .pinned], laidTests := true, laidLooks := .later }
def OriginRulesUptoCardSaid : Prop := Claim7.holds Tryz.pinned (.plain (OpenSpec.upto originRulesSpec)) originRulesUptoCard

/-- THE SECOND FORM's CARD OF 'gatepostlaw24.OriginAnswers'. -/
def originAnswersUptoCard : Claim7 := { stood := { row := originAnswersUptoRow, standIns := [], harness := (true, "c6ee50345aa8a21c7803cf005a10e9be0a4adda9f558b88cac91f457e4ab29c2"), looks := true }, kinds := [], alts := [], laidByText := true, laidKinds := [.data, .data, .data, .data, .pinned], laidTests := true, laidLooks := .later }
def OriginAnswersUptoCardSaid : Prop := Claim7.holds Tryz.pinned (.plain (OpenSpec.upto originAnswersSpec)) originAnswersUptoCard

/-- THE SECOND FORM's CARD OF 'gatepostlaw24.OriginParts'. -/
def originPartsUptoCard : Claim7 := { stood := { row := originPartsUptoRow, standIns := [], harness := (true, "c6ee50345aa8a21c7803cf005a10e9be0a4adda9f558b88cac91f457e4ab29c2"), looks := true }, kinds := [], alts := [], laidByText := true, laidKinds := [.data, .data, .data, .data, .sentinel, .sentinel, .pinned], laidTests := true, laidLooks := .later }
def OriginPartsUptoCardSaid : Prop := Claim7.holds Tryz.pinned (.plain (OpenSpec.upto originPartsSpec)) originPartsUptoCard
end Rows
end Go.Proofs.YtgefikehhcgdnaaGreatDoor
