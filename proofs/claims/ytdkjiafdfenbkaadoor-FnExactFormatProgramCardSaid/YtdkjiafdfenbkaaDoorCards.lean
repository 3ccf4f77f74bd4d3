/-
  DERIVED. GIVEN WITH THE SEED: THE CARDS: each row of YtdkjiafdfenbkaaDoorRows.lean that lists a variable, with what it lists TIED to the program's text (the seventh form; the later family's looks); each row that meets fmt, with fmt's text TOLD by the authors' own Lean function (tested against real Go, not proved from fmt's source: count such statements apart). THE CARD IS WHAT COUNTS. Prove the row's statement (the work); the ties are given (YtdkjiafdfenbkaaDoorTie.lean); close each card by the builder's one call (the guide's Derived/Test/ToyasCard.lean, 'card_holds'). Laid BY PROGRAM, IN A SANDBOX (cutbox-door.mjs). By AI agents, Wed Nov 11 2026. No macro, syntax, notation, axiom, sorry.
-/
import Derived.Test.YtdkjiafdfenbkaaDoorRows
import GoSem.ClaimSeven
namespace Go.Proofs.YtdkjiafdfenbkaaDoor
namespace Rows

/-- THE TIED CARD OF 'laws.FnExactFormatSample'. -/
def fnExactFormatSampleCard : Claim7 := { stood := { row := fnExactFormatSampleRow, standIns := [], harness := (true, "f8aad9e5eb29a6885a9be888c7eab2106e467a00f129c86a4c3a5ce63545f612"), looks := true }, kinds := [], alts := [], laidByText := true, laidKinds := [.data, .data, .data], laidTests := true, laidLooks := .later }
def FnExactFormatSampleCardSaid : Prop := Claim7.holds Tryd.pinned (.plain (OpenSpec.ofChange fnExactFormatSampleSpec)) fnExactFormatSampleCard

/-- THE TIED CARD OF 'laws.FnExactFormatCamera'. -/
def fnExactFormatCameraCard : Claim7 := { stood := { row := fnExactFormatCameraRow, standIns := [], harness := (true, "f8aad9e5eb29a6885a9be888c7eab2106e467a00f129c86a4c3a5ce63545f612"), looks := true }, kinds := [], alts := [], laidByText := true, laidKinds := [.data, .data, .data], laidTests := true, laidLooks := .later }
def FnExactFormatCameraCardSaid : Prop := Claim7.holds Tryd.pinned (.plain (OpenSpec.ofChange fnExactFormatCameraSpec)) fnExactFormatCameraCard

/-- THE TIED CARD OF 'laws.FnExactParseCamera'. -/
def fnExactParseCameraCard : Claim7 := { stood := { row := fnExactParseCameraRow, standIns := [], harness := (true, "f8aad9e5eb29a6885a9be888c7eab2106e467a00f129c86a4c3a5ce63545f612"), looks := true }, kinds := [], alts := [], laidByText := true, laidKinds := [.data, .data, .data, .sentinel, .sentinel], laidTests := true, laidLooks := .later }
def FnExactParseCameraCardSaid : Prop := Claim7.holds Tryd.pinned (.plain (OpenSpec.ofChange fnExactParseCameraSpec)) fnExactParseCameraCard

/-- THE TIED CARD OF 'laws.FnCamera'. -/
def fnCameraCard : Claim7 := { stood := { row := fnCameraRow, standIns := [], harness := (true, "f8aad9e5eb29a6885a9be888c7eab2106e467a00f129c86a4c3a5ce63545f612"), looks := true }, kinds := [], alts := [], laidByText := true, laidKinds := [.data, .data, .data, .sentinel, .sentinel], laidTests := true, laidLooks := .later }
def FnCameraCardSaid : Prop := Claim7.holds Tryd.pinned (.plain (OpenSpec.ofChange fnCameraSpec)) fnCameraCard

/-- THE TIED CARD OF 'laws.FnExactFormatNumber'. -/
def fnExactFormatNumberCard : Claim7 := { stood := { row := fnExactFormatNumberRow, standIns := [], harness := (true, "f8aad9e5eb29a6885a9be888c7eab2106e467a00f129c86a4c3a5ce63545f612"), looks := true }, kinds := [], alts := [], laidByText := true, laidKinds := [.data, .data, .data], laidTests := true, laidLooks := .later }
def FnExactFormatNumberCardSaid : Prop := Claim7.holds Tryd.pinned (.plain (OpenSpec.ofChange fnExactFormatNumberSpec)) fnExactFormatNumberCard

/-- THE TIED CARD OF 'laws.FnExactTokenize'. -/
def fnExactTokenizeCard : Claim7 := { stood := { row := fnExactTokenizeRow, standIns := [], harness := (true, "f8aad9e5eb29a6885a9be888c7eab2106e467a00f129c86a4c3a5ce63545f612"), looks := true }, kinds := [], alts := [], laidByText := true, laidKinds := [.handle], laidTests := true, laidLooks := .later }
def FnExactTokenizeCardSaid : Prop := Claim7.holds Tryd.pinned (.plain (OpenSpec.ofChange fnExactTokenizeSpec)) fnExactTokenizeCard

/-- THE TIED CARD OF 'laws.FnExactFormatProgram'. -/
def fnExactFormatProgramCard : Claim7 := { stood := { row := fnExactFormatProgramRow, standIns := [], harness := (true, "f8aad9e5eb29a6885a9be888c7eab2106e467a00f129c86a4c3a5ce63545f612"), looks := true }, kinds := [], alts := [], laidByText := true, laidKinds := [.data, .data, .data], laidTests := true, laidLooks := .later }
def FnExactFormatProgramCardSaid : Prop := Claim7.holds Tryd.pinned (.plain (OpenSpec.ofChange fnExactFormatProgramSpec)) fnExactFormatProgramCard

/-- THE SECOND FORM's CARD OF 'laws.FnExactFormatSample'. -/
def fnExactFormatSampleUptoCard : Claim7 := { stood := { row := fnExactFormatSampleUptoRow, standIns := [], harness := (true, "f8aad9e5eb29a6885a9be888c7eab2106e467a00f129c86a4c3a5ce63545f612"), looks := true }, kinds := [], alts := [], laidByText := true, laidKinds := [.data, .data, .data], laidTests := true, laidLooks := .later }
def FnExactFormatSampleUptoCardSaid : Prop := Claim7.holds Tryd.pinned (.plain (OpenSpec.upto fnExactFormatSampleSpec)) fnExactFormatSampleUptoCard

/-- THE SECOND FORM's CARD OF 'laws.FnExactFormatCamera'. -/
def fnExactFormatCameraUptoCard : Claim7 := { stood := { row := fnExactFormatCameraUptoRow, standIns := [], harness := (true, "f8aad9e5eb29a6885a9be888c7eab2106e467a00f129c86a4c3a5ce63545f612"), looks := true }, kinds := [], alts := [], laidByText := true, laidKinds := [.data, .data, .data], laidTests := true, laidLooks := .later }
def FnExactFormatCameraUptoCardSaid : Prop := Claim7.holds Tryd.pinned (.plain (OpenSpec.upto fnExactFormatCameraSpec)) fnExactFormatCameraUptoCard

/-- THE SECOND FORM's CARD OF 'laws.FnExactParseCamera'. -/
def fnExactParseCameraUptoCard : Claim7 := { stood := { row := fnExactParseCameraUptoRow, standIns := [], harness := (true, "f8aad9e5eb29a6885a9be888c7eab2106e467a00f129c86a4c3a5ce63545f612"), looks := true }, kinds := [], alts := [], laidByText := true, laidKinds := [.data, .data, .data, .sentinel, .sentinel], laidTests := true, laidLooks := .later }
def FnExactParseCameraUptoCardSaid : Prop := Claim7.holds Tryd.pinned (.plain (OpenSpec.upto fnExactParseCameraSpec)) fnExactParseCameraUptoCard

/-- THE SECOND FORM's CARD OF 'laws.FnCamera'. -/
def fnCameraUptoCard : Claim7 := { stood := { row := fnCameraUptoRow, standIns := [], harness := (true, "f8aad9e5eb29a6885a9be888c7eab2106e467a00f129c86a4c3a5ce63545f612"), looks := true }, kinds := [], alts := [], laidByText := true, laidKinds := [.data, .data, .data, .sentinel, .sentinel], laidTests := true, laidLooks := .later }
def FnCameraUptoCardSaid : Prop := Claim7.holds Tryd.pinned (.plain (OpenSpec.upto fnCameraSpec)) fnCameraUptoCard

/-- THE SECOND FORM's CARD OF 'laws.FnExactFormatNumber'. -/
def fnExactFormatNumberUptoCard : Claim7 := { stood := { row := fnExactFormatNumberUptoRow, standIns := [], harness := (true, "f8aad9e5eb29a6885a9be888c7eab2106e467a00f129c86a4c3a5ce63545f612"), looks := true }, kinds := [], alts := [], laidByText := true, laidKinds := [.data, .data, .data], laidTests := true, laidLooks := .later }
def FnExactFormatNumberUptoCardSaid : Prop := Claim7.holds Tryd.pinned (.plain (OpenSpec.upto fnExactFormatNumberSpec)) fnExactFormatNumberUptoCard

/-- THE SECOND FORM's CARD OF 'laws.FnExactTokenize'. -/
def fnExactTokenizeUptoCard : Claim7 := { stood := { row := fnExactTokenizeUptoRow, standIns := [], harness := (true, "f8aad9e5eb29a6885a9be888c7eab2106e467a00f129c86a4c3a5ce63545f612"), looks := true }, kinds := [], alts := [], laidByText := true, laidKinds := [.handle], laidTests := true, laidLooks := .later }
def FnExactTokenizeUptoCardSaid : Prop := Claim7.holds Tryd.pinned (.plain (OpenSpec.upto fnExactTokenizeSpec)) fnExactTokenizeUptoCard

/-- THE SECOND FORM's CARD OF 'laws.FnExactFormatProgram'. -/
def fnExactFormatProgramUptoCard : Claim7 := { stood := { row := fnExactFormatProgramUptoRow, standIns := [], harness := (true, "f8aad9e5eb29a6885a9be888c7eab2106e467a00f129c86a4c3a5ce63545f612"), looks := true }, kinds := [], alts := [], laidByText := true, laidKinds := [.data, .data, .data], laidTests := true, laidLooks := .later }
def FnExactFormatProgramUptoCardSaid : Prop := Claim7.holds Tryd.pinned (.plain (OpenSpec.upto fnExactFormatProgramSpec)) fnExactFormatProgramUptoCard
end Rows
end Go.Proofs.YtdkjiafdfenbkaaDoor
