/-
  DERIVED. GIVEN WITH THE SEED: THE CARDS: each row of YtcmopmapdomneaaDoorRows.lean that lists a variable, with what it lists TIED to the program's text (the seventh form; the later family's looks); each row that meets fmt, with fmt's text TOLD by the authors' own Lean function (tested against real Go, not proved from fmt's source: count such statements apart). THE CARD IS WHAT COUNTS. Prove the row's statement (the work); the ties are given (YtcmopmapdomneaaDoorTie.lean); close each card by the builder's one call (the guide's Derived/Test/ToyasCard.lean, 'card_holds'). Laid BY PROGRAM, IN A SANDBOX (cutbox-door.mjs). By AI agents, Wed Nov 11 2026. No macro, syntax, notation, axiom, sorry.
-/
import Derived.Test.YtcmopmapdomneaaDoorRows
import GoSem.ClaimSeven
namespace Go.Proofs.YtcmopmapdomneaaDoor
namespace Rows

/-- THE TIED CARD OF 'laws.FnExactAnnotatedText'. -/
def fnExactAnnotatedTextCard : Claim7 := { stood := { row := fnExactAnnotatedTextRow, standIns := [], harness := (true, "8e564c23b402acc6871414f601a75405a4d14b754eac6014401bb10364ddbd52"), looks := false }, kinds := [], alts := [], laidByText := true, laidKinds := [.data, .data, .data], laidTests := true, laidLooks := .later }
def FnExactAnnotatedTextCardSaid : Prop := Claim7.holds Tryd.pinned (.plain (OpenSpec.ofChange fnExactAnnotatedTextSpec)) fnExactAnnotatedTextCard

/-- THE TIED CARD OF 'laws.FnExactProgramText'. -/
def fnExactProgramTextCard : Claim7 := { stood := { row := fnExactProgramTextRow, standIns := [], harness := (true, "8e564c23b402acc6871414f601a75405a4d14b754eac6014401bb10364ddbd52"), looks := false }, kinds := [], alts := [], laidByText := true, laidKinds := [.data, .data, .data], laidTests := true, laidLooks := .later }
def FnExactProgramTextCardSaid : Prop := Claim7.holds Tryd.pinned (.plain (OpenSpec.ofChange fnExactProgramTextSpec)) fnExactProgramTextCard

/-- THE SECOND FORM's CARD OF 'laws.FnExactAnnotatedText'. -/
def fnExactAnnotatedTextUptoCard : Claim7 := { stood := { row := fnExactAnnotatedTextUptoRow, standIns := [], harness := (true, "8e564c23b402acc6871414f601a75405a4d14b754eac6014401bb10364ddbd52"), looks := false }, kinds := [], alts := [], laidByText := true, laidKinds := [.data, .data, .data], laidTests := true, laidLooks := .later }
def FnExactAnnotatedTextUptoCardSaid : Prop := Claim7.holds Tryd.pinned (.plain (OpenSpec.upto fnExactAnnotatedTextSpec)) fnExactAnnotatedTextUptoCard

/-- THE SECOND FORM's CARD OF 'laws.FnExactProgramText'. -/
def fnExactProgramTextUptoCard : Claim7 := { stood := { row := fnExactProgramTextUptoRow, standIns := [], harness := (true, "8e564c23b402acc6871414f601a75405a4d14b754eac6014401bb10364ddbd52"), looks := false }, kinds := [], alts := [], laidByText := true, laidKinds := [.data, .data, .data], laidTests := true, laidLooks := .later }
def FnExactProgramTextUptoCardSaid : Prop := Claim7.holds Tryd.pinned (.plain (OpenSpec.upto fnExactProgramTextSpec)) fnExactProgramTextUptoCard
end Rows
end Go.Proofs.YtcmopmapdomneaaDoor
