/-
  DERIVED. GIVEN WITH THE SEED: THE CARDS: each row of YtfbppbelcbbhlaaDoorRows.lean that lists a variable, with what it lists TIED to the program's text (the seventh form; the later family's looks); each row that meets fmt, with fmt's text TOLD by the authors' own Lean function (tested against real Go, not proved from fmt's source: count such statements apart). THE CARD IS WHAT COUNTS. Prove the row's statement (the work); the ties are given (YtfbppbelcbbhlaaDoorTie.lean); close each card by the builder's one call (the guide's Derived/Test/ToyasCard.lean, 'card_holds'). Laid BY PROGRAM, IN A SANDBOX (cutbox-door.mjs). By AI agents, Wed Nov 11 2026. No macro, syntax, notation, axiom, sorry.
-/
import Derived.Test.YtfbppbelcbbhlaaDoorRows
import GoSem.ClaimSeven
namespace Go.Proofs.YtfbppbelcbbhlaaDoor
namespace Rows

/-- THE TIED CARD OF 'calamuslaw05.SfntTables'. -/
def sfntTablesCard : Claim7 := { stood := { row := sfntTablesRow, standIns := [], harness := (true, "c68d4312184b6bf10ae478d9d6d96ff5e2f57b4374f947a0fc67cc12a11616d9"), looks := true }, kinds := [], alts := [], laidByText := true, laidKinds := [.data], laidTests := true, laidLooks := .later }
def SfntTablesCardSaid : Prop := Claim7.holds Tryd.pinned (.plain (OpenSpec.ofChange sfntTablesSpec)) sfntTablesCard

/-- THE TIED CARD OF 'calamuslaw05.SfntJoins'. -/
def sfntJoinsCard : Claim7 := { stood := { row := sfntJoinsRow, standIns := [], harness := (true, "c68d4312184b6bf10ae478d9d6d96ff5e2f57b4374f947a0fc67cc12a11616d9"), looks := true }, kinds := [], alts := [], laidByText := true, laidKinds := [.data], laidTests := true, laidLooks := .later }
def SfntJoinsCardSaid : Prop := Claim7.holds Tryd.pinned (.plain (OpenSpec.ofChange sfntJoinsSpec)) sfntJoinsCard

/-- THE TIED CARD OF 'calamuslaw05.SfntSums'. -/
def sfntSumsCard : Claim7 := { stood := { row := sfntSumsRow, standIns := [], harness := (true, "c68d4312184b6bf10ae478d9d6d96ff5e2f57b4374f947a0fc67cc12a11616d9"), looks := true }, kinds := [], alts := [], laidByText := true, laidKinds := [.data], laidTests := true, laidLooks := .later }
def SfntSumsCardSaid : Prop := Claim7.holds Tryd.pinned (.plain (OpenSpec.ofChange sfntSumsSpec)) sfntSumsCard

/-- THE TIED CARD OF 'calamuslaw05.SfntHeads'. -/
def sfntHeadsCard : Claim7 := { stood := { row := sfntHeadsRow, standIns := [], harness := (true, "c68d4312184b6bf10ae478d9d6d96ff5e2f57b4374f947a0fc67cc12a11616d9"), looks := true }, kinds := [], alts := [], laidByText := true, laidKinds := [.data], laidTests := true, laidLooks := .later }
def SfntHeadsCardSaid : Prop := Claim7.holds Tryd.pinned (.plain (OpenSpec.ofChange sfntHeadsSpec)) sfntHeadsCard

/-- THE TIED CARD OF 'calamuslaw05.SfntWidths'. -/
def sfntWidthsCard : Claim7 := { stood := { row := sfntWidthsRow, standIns := [], harness := (true, "c68d4312184b6bf10ae478d9d6d96ff5e2f57b4374f947a0fc67cc12a11616d9"), looks := true }, kinds := [], alts := [], laidByText := true, laidKinds := [.data], laidTests := true, laidLooks := .later }
def SfntWidthsCardSaid : Prop := Claim7.holds Tryd.pinned (.plain (OpenSpec.ofChange sfntWidthsSpec)) sfntWidthsCard

/-- THE SECOND FORM's CARD OF 'calamuslaw05.SfntTables'. -/
def sfntTablesUptoCard : Claim7 := { stood := { row := sfntTablesUptoRow, standIns := [], harness := (true, "c68d4312184b6bf10ae478d9d6d96ff5e2f57b4374f947a0fc67cc12a11616d9"), looks := true }, kinds := [], alts := [], laidByText := true, laidKinds := [.data], laidTests := true, laidLooks := .later }
def SfntTablesUptoCardSaid : Prop := Claim7.holds Tryd.pinned (.plain (OpenSpec.upto sfntTablesSpec)) sfntTablesUptoCard

/-- THE SECOND FORM's CARD OF 'calamuslaw05.SfntJoins'. -/
def sfntJoinsUptoCard : Claim7 := { stood := { row := sfntJoinsUptoRow, standIns := [], harness := (true, "c68d4312184b6bf10ae478d9d6d96ff5e2f57b4374f947a0fc67cc12a11616d9"), looks := true }, kinds := [], alts := [], laidByText := true, laidKinds := [.data], laidTests := true, laidLooks := .later }
def SfntJoinsUptoCardSaid : Prop := Claim7.holds Tryd.pinned (.plain (OpenSpec.upto sfntJoinsSpec)) sfntJoinsUptoCard

/-- THE SECOND FORM's CARD OF 'calamuslaw05.SfntSums'. -/
def sfntSumsUptoCard : Claim7 := { stood := { row := sfntSumsUptoRow, standIns := [], harness := (true, "c68d4312184b6bf10ae478d9d6d96ff5e2f57b4374f947a0fc67cc12a11616d9"), looks := true }, kinds := [], alts := [], laidByText := true, laidKinds := [.data], laidTests := true, laidLooks := .later }
def SfntSumsUptoCardSaid : Prop := Claim7.holds Tryd.pinned (.plain (OpenSpec.upto sfntSumsSpec)) sfntSumsUptoCard

/-- THE SECOND FORM's CARD OF 'calamuslaw05.SfntHeads'. -/
def sfntHeadsUptoCard : Claim7 := { stood := { row := sfntHeadsUptoRow, standIns := [], harness := (true, "c68d4312184b6bf10ae478d9d6d96ff5e2f57b4374f947a0fc67cc12a11616d9"), looks := true }, kinds := [], alts := [], laidByText := true, laidKinds := [.data], laidTests := true, laidLooks := .later }
def SfntHeadsUptoCardSaid : Prop := Claim7.holds Tryd.pinned (.plain (OpenSpec.upto sfntHeadsSpec)) sfntHeadsUptoCard

/-- THE SECOND FORM's CARD OF 'calamuslaw05.SfntWidths'. -/
def sfntWidthsUptoCard : Claim7 := { stood := { row := sfntWidthsUptoRow, standIns := [], harness := (true, "c68d4312184b6bf10ae478d9d6d96ff5e2f57b4374f947a0fc67cc12a11616d9"), looks := true }, kinds := [], alts := [], laidByText := true, laidKinds := [.data], laidTests := true, laidLooks := .later }
def SfntWidthsUptoCardSaid : Prop := Claim7.holds Tryd.pinned (.plain (OpenSpec.upto sfntWidthsSpec)) sfntWidthsUptoCard
end Rows
end Go.Proofs.YtfbppbelcbbhlaaDoor
