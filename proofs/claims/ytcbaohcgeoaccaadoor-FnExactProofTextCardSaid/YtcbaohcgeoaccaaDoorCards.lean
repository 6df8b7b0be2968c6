/-
  DERIVED. GIVEN WITH THE SEED: THE CARDS: each row of YtcbaohcgeoaccaaDoorRows.lean that lists a variable, with what it lists TIED to the program's text (the seventh form; the later family's looks); each row that meets fmt, with fmt's text TOLD by the authors' own Lean function (tested against real Go, not proved from fmt's source: count such statements apart). THE CARD IS WHAT COUNTS. Prove the row's statement (the work); the ties are given (YtcbaohcgeoaccaaDoorTie.lean); close each card by the builder's one call (the guide's Derived/Test/ToyasCard.lean, 'card_holds'). Laid BY PROGRAM, IN A SANDBOX (cutbox-door.mjs). By AI agents, Wed Nov 11 2026. No macro, syntax, notation, axiom, sorry.
-/
import Derived.Test.YtcbaohcgeoaccaaDoorRows
import GoSem.ClaimSeven
namespace Go.Proofs.YtcbaohcgeoaccaaDoor
namespace Rows

/-- THE TIED CARD OF 'laws.FnExactDecimal'. -/
def fnExactDecimalCard : Claim7 := { stood := { row := fnExactDecimalRow, standIns := [], harness := (true, "1d6ef227a609349b437feb514876022f4aabbab165546c3ec9066b8fbb29ae4a"), looks := true }, kinds := [], alts := [], laidByText := true, laidKinds := [.data, .data, .data], laidTests := true, laidLooks := .later }
def FnExactDecimalCardSaid : Prop := Claim7.holds Tryd.pinned (.plain (OpenSpec.ofChange fnExactDecimalSpec)) fnExactDecimalCard

/-- THE TIED CARD OF 'laws.FnExactWordsOf'. -/
def fnExactWordsOfCard : Claim7 := { stood := { row := fnExactWordsOfRow, standIns := [], harness := (true, "1d6ef227a609349b437feb514876022f4aabbab165546c3ec9066b8fbb29ae4a"), looks := true }, kinds := [], alts := [], laidByText := true, laidKinds := [.data, .pinned], laidTests := true, laidLooks := .later }
def FnExactWordsOfCardSaid : Prop := Claim7.holds Tryd.pinned (.plain (OpenSpec.ofChange fnExactWordsOfSpec)) fnExactWordsOfCard

/-- THE TIED CARD OF 'laws.FnExactLinesOf'. -/
def fnExactLinesOfCard : Claim7 := { stood := { row := fnExactLinesOfRow, standIns := [], harness := (true, "1d6ef227a609349b437feb514876022f4aabbab165546c3ec9066b8fbb29ae4a"), looks := true }, kinds := [], alts := [], laidByText := true, laidKinds := [.data, .pinned], laidTests := true, laidLooks := .later }
def FnExactLinesOfCardSaid : Prop := Claim7.holds Tryd.pinned (.plain (OpenSpec.ofChange fnExactLinesOfSpec)) fnExactLinesOfCard

/-- THE TIED CARD OF 'laws.FnExactInstrText'. -/
def fnExactInstrTextCard : Claim7 := { stood := { row := fnExactInstrTextRow, standIns := [], harness := (true, "1d6ef227a609349b437feb514876022f4aabbab165546c3ec9066b8fbb29ae4a"), looks := true }, kinds := [], alts := [], laidByText := true, laidKinds := [.data, .data, .data], laidTests := true, laidLooks := .later }
def FnExactInstrTextCardSaid : Prop := Claim7.holds Tryd.pinned (.plain (OpenSpec.ofChange fnExactInstrTextSpec)) fnExactInstrTextCard

/-- THE TIED CARD OF 'laws.FnExactTermText'. -/
def fnExactTermTextCard : Claim7 := { stood := { row := fnExactTermTextRow, standIns := [], harness := (true, "1d6ef227a609349b437feb514876022f4aabbab165546c3ec9066b8fbb29ae4a"), looks := true }, kinds := [], alts := [], laidByText := true, laidKinds := [.data, .data, .data], laidTests := true, laidLooks := .later }
def FnExactTermTextCardSaid : Prop := Claim7.holds Tryd.pinned (.plain (OpenSpec.ofChange fnExactTermTextSpec)) fnExactTermTextCard

/-- THE TIED CARD OF 'laws.FnExactCodeText'. -/
def fnExactCodeTextCard : Claim7 := { stood := { row := fnExactCodeTextRow, standIns := [], harness := (true, "1d6ef227a609349b437feb514876022f4aabbab165546c3ec9066b8fbb29ae4a"), looks := true }, kinds := [], alts := [], laidByText := true, laidKinds := [.data, .data, .data], laidTests := true, laidLooks := .later }
def FnExactCodeTextCardSaid : Prop := Claim7.holds Tryd.pinned (.plain (OpenSpec.ofChange fnExactCodeTextSpec)) fnExactCodeTextCard

/-- THE TIED CARD OF 'laws.FnExactSequentText'. -/
def fnExactSequentTextCard : Claim7 := { stood := { row := fnExactSequentTextRow, standIns := [], harness := (true, "1d6ef227a609349b437feb514876022f4aabbab165546c3ec9066b8fbb29ae4a"), looks := true }, kinds := [], alts := [], laidByText := true, laidKinds := [.data, .data, .data], laidTests := true, laidLooks := .later }
def FnExactSequentTextCardSaid : Prop := Claim7.holds Tryd.pinned (.plain (OpenSpec.ofChange fnExactSequentTextSpec)) fnExactSequentTextCard

/-- THE TIED CARD OF 'laws.FnExactReadDecimal'. -/
def fnExactReadDecimalCard : Claim7 := { stood := { row := fnExactReadDecimalRow, standIns := [], harness := (true, "1d6ef227a609349b437feb514876022f4aabbab165546c3ec9066b8fbb29ae4a"), looks := true }, kinds := [], alts := [], laidByText := true, laidKinds := [.data, .data, .data, .sentinel, .sentinel], laidTests := true, laidLooks := .later }
def FnExactReadDecimalCardSaid : Prop := Claim7.holds Tryd.pinned (.plain (OpenSpec.ofChange fnExactReadDecimalSpec)) fnExactReadDecimalCard

/-- THE TIED CARD OF 'laws.FnExactProofText'. -/
def fnExactProofTextCard : Claim7 := { stood := { row := fnExactProofTextRow, standIns := [], harness := (true, "1d6ef227a609349b437feb514876022f4aabbab165546c3ec9066b8fbb29ae4a"), looks := true }, kinds := [], alts := [], laidByText := true, laidKinds := [.data, .data, .data], laidTests := true, laidLooks := .later }
def FnExactProofTextCardSaid : Prop := Claim7.holds Tryd.pinned (.plain (OpenSpec.ofChange fnExactProofTextSpec)) fnExactProofTextCard

/-- THE TIED CARD OF 'laws.FnExactReadInstr'. -/
def fnExactReadInstrCard : Claim7 := { stood := { row := fnExactReadInstrRow, standIns := [], harness := (true, "1d6ef227a609349b437feb514876022f4aabbab165546c3ec9066b8fbb29ae4a"), looks := true }, kinds := [], alts := [], laidByText := true, laidKinds := [.data, .data, .data, .sentinel, .sentinel], laidTests := true, laidLooks := .later }
def FnExactReadInstrCardSaid : Prop := Claim7.holds Tryd.pinned (.plain (OpenSpec.ofChange fnExactReadInstrSpec)) fnExactReadInstrCard

/-- THE TIED CARD OF 'laws.FnExactReadCode'. -/
def fnExactReadCodeCard : Claim7 := { stood := { row := fnExactReadCodeRow, standIns := [], harness := (true, "1d6ef227a609349b437feb514876022f4aabbab165546c3ec9066b8fbb29ae4a"), looks := true }, kinds := [], alts := [], laidByText := true, laidKinds := [.data, .data, .data, .data, .sentinel, .sentinel, .pinned], laidTests := true, laidLooks := .later }
def FnExactReadCodeCardSaid : Prop := Claim7.holds Tryd.pinned (.plain (OpenSpec.ofChange fnExactReadCodeSpec)) fnExactReadCodeCard

/-- THE TIED CARD OF 'laws.FnTexts'. -/
def fnTextsCard : Claim7 := { stood := { row := fnTextsRow, standIns := [], harness := (true, "1d6ef227a609349b437feb514876022f4aabbab165546c3ec9066b8fbb29ae4a"), looks := true }, kinds := [], alts := [], laidByText := true, laidKinds := [.data, .pinned], laidTests := true, laidLooks := .later }
def FnTextsCardSaid : Prop := Claim7.holds Tryd.pinned (.plain (OpenSpec.ofChange fnTextsSpec)) fnTextsCard

/-- THE SECOND FORM's CARD OF 'laws.FnExactDecimal'. -/
def fnExactDecimalUptoCard : Claim7 := { stood := { row := fnExactDecimalUptoRow, standIns := [], harness := (true, "1d6ef227a609349b437feb514876022f4aabbab165546c3ec9066b8fbb29ae4a"), looks := true }, kinds := [], alts := [], laidByText := true, laidKinds := [.data, .data, .data], laidTests := true, laidLooks := .later }
def FnExactDecimalUptoCardSaid : Prop := Claim7.holds Tryd.pinned (.plain (OpenSpec.upto fnExactDecimalSpec)) fnExactDecimalUptoCard

/-- THE SECOND FORM's CARD OF 'laws.FnExactWordsOf'. -/
def fnExactWordsOfUptoCard : Claim7 := { stood := { row := fnExactWordsOfUptoRow, standIns := [], harness := (true, "1d6ef227a609349b437feb514876022f4aabbab165546c3ec9066b8fbb29ae4a"), looks := true }, kinds := [], alts := [], laidByText := true, laidKinds := [.data, .pinned], laidTests := true, laidLooks := .later }
def FnExactWordsOfUptoCardSaid : Prop := Claim7.holds Tryd.pinned (.plain (OpenSpec.upto fnExactWordsOfSpec)) fnExactWordsOfUptoCard

/-- THE SECOND FORM's CARD OF 'laws.FnExactLinesOf'. -/
def fnExactLinesOfUptoCard : Claim7 := { stood := { row := fnExactLinesOfUptoRow, standIns := [], harness := (true, "1d6ef227a609349b437feb514876022f4aabbab165546c3ec9066b8fbb29ae4a"), looks := true }, kinds := [], alts := [], laidByText := true, laidKinds := [.data, .pinned], laidTests := true, laidLooks := .later }
def FnExactLinesOfUptoCardSaid : Prop := Claim7.holds Tryd.pinned (.plain (OpenSpec.upto fnExactLinesOfSpec)) fnExactLinesOfUptoCard

/-- THE SECOND FORM's CARD OF 'laws.FnExactInstrText'. -/
def fnExactInstrTextUptoCard : Claim7 := { stood := { row := fnExactInstrTextUptoRow, standIns := [], harness := (true, "1d6ef227a609349b437feb514876022f4aabbab165546c3ec9066b8fbb29ae4a"), looks := true }, kinds := [], alts := [], laidByText := true, laidKinds := [.data, .data, .data], laidTests := true, laidLooks := .later }
def FnExactInstrTextUptoCardSaid : Prop := Claim7.holds Tryd.pinned (.plain (OpenSpec.upto fnExactInstrTextSpec)) fnExactInstrTextUptoCard

/-- THE SECOND FORM's CARD OF 'laws.FnExactTermText'. -/
def fnExactTermTextUptoCard : Claim7 := { stood := { row := fnExactTermTextUptoRow, standIns := [], harness := (true, "1d6ef227a609349b437feb514876022f4aabbab165546c3ec9066b8fbb29ae4a"), looks := true }, kinds := [], alts := [], laidByText := true, laidKinds := [.data, .data, .data], laidTests := true, laidLooks := .later }
def FnExactTermTextUptoCardSaid : Prop := Claim7.holds Tryd.pinned (.plain (OpenSpec.upto fnExactTermTextSpec)) fnExactTermTextUptoCard

/-- THE SECOND FORM's CARD OF 'laws.FnExactCodeText'. -/
def fnExactCodeTextUptoCard : Claim7 := { stood := { row := fnExactCodeTextUptoRow, standIns := [], harness := (true, "1d6ef227a609349b437feb514876022f4aabbab165546c3ec9066b8fbb29ae4a"), looks := true }, kinds := [], alts := [], laidByText := true, laidKinds := [.data, .data, .data], laidTests := true, laidLooks := .later }
def FnExactCodeTextUptoCardSaid : Prop := Claim7.holds Tryd.pinned (.plain (OpenSpec.upto fnExactCodeTextSpec)) fnExactCodeTextUptoCard

/-- THE SECOND FORM's CARD OF 'laws.FnExactSequentText'. -/
def fnExactSequentTextUptoCard : Claim7 := { stood := { row := fnExactSequentTextUptoRow, standIns := [], harness := (true, "1d6ef227a609349b437feb514876022f4aabbab165546c3ec9066b8fbb29ae4a"), looks := true }, kinds := [], alts := [], laidByText := true, laidKinds := [.data, .data, .data], laidTests := true, laidLooks := .later }
def FnExactSequentTextUptoCardSaid : Prop := Claim7.holds Tryd.pinned (.plain (OpenSpec.upto fnExactSequentTextSpec)) fnExactSequentTextUptoCard

/-- THE SECOND FORM's CARD OF 'laws.FnExactReadDecimal'. -/
def fnExactReadDecimalUptoCard : Claim7 := { stood := { row := fnExactReadDecimalUptoRow, standIns := [], harness := (true, "1d6ef227a609349b437feb514876022f4aabbab165546c3ec9066b8fbb29ae4a"), looks := true }, kinds := [], alts := [], laidByText := true, laidKinds := [.data, .data, .data, .sentinel, .sentinel], laidTests := true, laidLooks := .later }
def FnExactReadDecimalUptoCardSaid : Prop := Claim7.holds Tryd.pinned (.plain (OpenSpec.upto fnExactReadDecimalSpec)) fnExactReadDecimalUptoCard

/-- THE SECOND FORM's CARD OF 'laws.FnExactProofText'. -/
def fnExactProofTextUptoCard : Claim7 := { stood := { row := fnExactProofTextUptoRow, standIns := [], harness := (true, "1d6ef227a609349b437feb514876022f4aabbab165546c3ec9066b8fbb29ae4a"), looks := true }, kinds := [], alts := [], laidByText := true, laidKinds := [.data, .data, .data], laidTests := true, laidLooks := .later }
def FnExactProofTextUptoCardSaid : Prop := Claim7.holds Tryd.pinned (.plain (OpenSpec.upto fnExactProofTextSpec)) fnExactProofTextUptoCard

/-- THE SECOND FORM's CARD OF 'laws.FnExactReadInstr'. -/
def fnExactReadInstrUptoCard : Claim7 := { stood := { row := fnExactReadInstrUptoRow, standIns := [], harness := (true, "1d6ef227a609349b437feb514876022f4aabbab165546c3ec9066b8fbb29ae4a"), looks := true }, kinds := [], alts := [], laidByText := true, laidKinds := [.data, .data, .data, .sentinel, .sentinel], laidTests := true, laidLooks := .later }
def FnExactReadInstrUptoCardSaid : Prop := Claim7.holds Tryd.pinned (.plain (OpenSpec.upto fnExactReadInstrSpec)) fnExactReadInstrUptoCard

/-- THE SECOND FORM's CARD OF 'laws.FnExactReadCode'. -/
def fnExactReadCodeUptoCard : Claim7 := { stood := { row := fnExactReadCodeUptoRow, standIns := [], harness := (true, "1d6ef227a609349b437feb514876022f4aabbab165546c3ec9066b8fbb29ae4a"), looks := true }, kinds := [], alts := [], laidByText := true, laidKinds := [.data, .data, .data, .data, .sentinel, .sentinel, .pinned], laidTests := true, laidLooks := .later }
def FnExactReadCodeUptoCardSaid : Prop := Claim7.holds Tryd.pinned (.plain (OpenSpec.upto fnExactReadCodeSpec)) fnExactReadCodeUptoCard

/-- THE SECOND FORM's CARD OF 'laws.FnTexts'. -/
def fnTextsUptoCard : Claim7 := { stood := { row := fnTextsUptoRow, standIns := [], harness := (true, "1d6ef227a609349b437feb514876022f4aabbab165546c3ec9066b8fbb29ae4a"), looks := true }, kinds := [], alts := [], laidByText := true, laidKinds := [.data, .pinned], laidTests := true, laidLooks := .later }
def FnTextsUptoCardSaid : Prop := Claim7.holds Tryd.pinned (.plain (OpenSpec.upto fnTextsSpec)) fnTextsUptoCard
end Rows
end Go.Proofs.YtcbaohcgeoaccaaDoor
