/-
  DERIVED. GIVEN WITH THE SEED: THE CARDS: each row of YtbpaknnnkmjgjaaDoorRows.lean that lists a variable, with what it lists TIED to the program's text (the seventh form; the later family's looks); each row that meets fmt, with fmt's text TOLD by the authors' own Lean function (tested against real Go, not proved from fmt's source: count such statements apart). THE CARD IS WHAT COUNTS. Prove the row's statement (the work); the ties are given (YtbpaknnnkmjgjaaDoorTie.lean); close each card by the builder's one call (the guide's Derived/Test/ToyasCard.lean, 'card_holds'). Laid BY PROGRAM, IN A SANDBOX (cutbox-door.mjs). By AI agents, Wed Nov 11 2026. No macro, syntax, notation, axiom, sorry.
-/
import Derived.Test.YtbpaknnnkmjgjaaDoorRows
import GoSem.ClaimSeven
namespace Go.Proofs.YtbpaknnnkmjgjaaDoor
namespace Rows

/-- THE TIED CARD OF 'casketlaw3.KdfMacs'. -/
def kdfMacsCard : Claim7 := { stood := { row := kdfMacsRow, standIns := [], harness := (true, "3b0fadc0c8d6629c0949324d97b8b3f6ed696a652bfe0fe05d1589d33ca5723a"), looks := false }, kinds := [], alts := [], laidByText := true, laidKinds := [.data, .data, .data, .data], laidTests := true, laidLooks := .later }
def KdfMacsCardSaid : Prop := Claim7.holds Tryd.pinned (.plain (OpenSpec.ofChange kdfMacsSpec)) kdfMacsCard

/-- THE TIED CARD OF 'casketlaw3.KdfKeys'. -/
def kdfKeysCard : Claim7 := { stood := { row := kdfKeysRow, standIns := [], harness := (true, "3b0fadc0c8d6629c0949324d97b8b3f6ed696a652bfe0fe05d1589d33ca5723a"), looks := false }, kinds := [], alts := [], laidByText := true, laidKinds := [.data, .data], laidTests := true, laidLooks := .later }
def KdfKeysCardSaid : Prop := Claim7.holds Tryd.pinned (.plain (OpenSpec.ofChange kdfKeysSpec)) kdfKeysCard

/-- THE TIED CARD OF 'casketlaw3.KdfRuns'. -/
def kdfRunsCard : Claim7 := { stood := { row := kdfRunsRow, standIns := [], harness := (true, "3b0fadc0c8d6629c0949324d97b8b3f6ed696a652bfe0fe05d1589d33ca5723a"), looks := false }, kinds := [], alts := [], laidByText := true, laidKinds := [.data, .data, .data, .data], laidTests := true, laidLooks := .later }
def KdfRunsCardSaid : Prop := Claim7.holds Tryd.pinned (.plain (OpenSpec.ofChange kdfRunsSpec)) kdfRunsCard

/-- THE TIED CARD OF 'casketlaw3.KdfCuts'. -/
def kdfCutsCard : Claim7 := { stood := { row := kdfCutsRow, standIns := [], harness := (true, "3b0fadc0c8d6629c0949324d97b8b3f6ed696a652bfe0fe05d1589d33ca5723a"), looks := false }, kinds := [], alts := [], laidByText := true, laidKinds := [.data, .data], laidTests := true, laidLooks := .later }
def KdfCutsCardSaid : Prop := Claim7.holds Tryd.pinned (.plain (OpenSpec.ofChange kdfCutsSpec)) kdfCutsCard

/-- THE TIED CARD OF 'casketlaw3.KdfExpands'. -/
def kdfExpandsCard : Claim7 := { stood := { row := kdfExpandsRow, standIns := [], harness := (true, "3b0fadc0c8d6629c0949324d97b8b3f6ed696a652bfe0fe05d1589d33ca5723a"), looks := false }, kinds := [], alts := [], laidByText := true, laidKinds := [.data, .data, .data, .data], laidTests := true, laidLooks := .later }
def KdfExpandsCardSaid : Prop := Claim7.holds Tryd.pinned (.plain (OpenSpec.ofChange kdfExpandsSpec)) kdfExpandsCard

/-- THE TIED CARD OF 'casketlaw3.KdfPasses'. -/
def kdfPassesCard : Claim7 := { stood := { row := kdfPassesRow, standIns := [], harness := (true, "3b0fadc0c8d6629c0949324d97b8b3f6ed696a652bfe0fe05d1589d33ca5723a"), looks := false }, kinds := [], alts := [], laidByText := true, laidKinds := [.data, .data, .data, .data], laidTests := true, laidLooks := .later }
def KdfPassesCardSaid : Prop := Claim7.holds Tryd.pinned (.plain (OpenSpec.ofChange kdfPassesSpec)) kdfPassesCard

/-- THE TIED CARD OF 'casketlaw3.KdfPrefix'. -/
def kdfPrefixCard : Claim7 := { stood := { row := kdfPrefixRow, standIns := [], harness := (true, "3b0fadc0c8d6629c0949324d97b8b3f6ed696a652bfe0fe05d1589d33ca5723a"), looks := false }, kinds := [], alts := [], laidByText := true, laidKinds := [.data, .data], laidTests := true, laidLooks := .later }
def KdfPrefixCardSaid : Prop := Claim7.holds Tryd.pinned (.plain (OpenSpec.ofChange kdfPrefixSpec)) kdfPrefixCard

/-- THE TIED CARD OF 'casketlaw3.KdfBuilt'. -/
def kdfBuiltCard : Claim7 := { stood := { row := kdfBuiltRow, standIns := [], harness := (true, "3b0fadc0c8d6629c0949324d97b8b3f6ed696a652bfe0fe05d1589d33ca5723a"), looks := false }, kinds := [], alts := [], laidByText := true, laidKinds := [.data, .data], laidTests := true, laidLooks := .later }
def KdfBuiltCardSaid : Prop := Claim7.holds Tryd.pinned (.plain (OpenSpec.ofChange kdfBuiltSpec)) kdfBuiltCard

/-- THE TIED CARD OF 'casketlaw3.KdfKnown'. -/
def kdfKnownCard : Claim7 := { stood := { row := kdfKnownRow, standIns := [], harness := (true, "3b0fadc0c8d6629c0949324d97b8b3f6ed696a652bfe0fe05d1589d33ca5723a"), looks := false }, kinds := [], alts := [], laidByText := true, laidKinds := [.data, .data], laidTests := true, laidLooks := .later }
def KdfKnownCardSaid : Prop := Claim7.holds Tryd.pinned (.plain (OpenSpec.ofChange kdfKnownSpec)) kdfKnownCard

/-- THE SECOND FORM's CARD OF 'casketlaw3.KdfMacs'. -/
def kdfMacsUptoCard : Claim7 := { stood := { row := kdfMacsUptoRow, standIns := [], harness := (true, "3b0fadc0c8d6629c0949324d97b8b3f6ed696a652bfe0fe05d1589d33ca5723a"), looks := false }, kinds := [], alts := [], laidByText := true, laidKinds := [.data, .data, .data, .data], laidTests := true, laidLooks := .later }
def KdfMacsUptoCardSaid : Prop := Claim7.holds Tryd.pinned (.plain (OpenSpec.upto kdfMacsSpec)) kdfMacsUptoCard

/-- THE SECOND FORM's CARD OF 'casketlaw3.KdfKeys'. -/
def kdfKeysUptoCard : Claim7 := { stood := { row := kdfKeysUptoRow, standIns := [], harness := (true, "3b0fadc0c8d6629c0949324d97b8b3f6ed696a652bfe0fe05d1589d33ca5723a"), looks := false }, kinds := [], alts := [], laidByText := true, laidKinds := [.data, .data], laidTests := true, laidLooks := .later }
def KdfKeysUptoCardSaid : Prop := Claim7.holds Tryd.pinned (.plain (OpenSpec.upto kdfKeysSpec)) kdfKeysUptoCard

/-- THE SECOND FORM's CARD OF 'casketlaw3.KdfRuns'. -/
def kdfRunsUptoCard : Claim7 := { stood := { row := kdfRunsUptoRow, standIns := [], harness := (true, "3b0fadc0c8d6629c0949324d97b8b3f6ed696a652bfe0fe05d1589d33ca5723a"), looks := false }, kinds := [], alts := [], laidByText := true, laidKinds := [.data, .data, .data, .data], laidTests := true, laidLooks := .later }
def KdfRunsUptoCardSaid : Prop := Claim7.holds Tryd.pinned (.plain (OpenSpec.upto kdfRunsSpec)) kdfRunsUptoCard

/-- THE SECOND FORM's CARD OF 'casketlaw3.KdfCuts'. -/
def kdfCutsUptoCard : Claim7 := { stood := { row := kdfCutsUptoRow, standIns := [], harness := (true, "3b0fadc0c8d6629c0949324d97b8b3f6ed696a652bfe0fe05d1589d33ca5723a"), looks := false }, kinds := [], alts := [], laidByText := true, laidKinds := [.data, .data], laidTests := true, laidLooks := .later }
def KdfCutsUptoCardSaid : Prop := Claim7.holds Tryd.pinned (.plain (OpenSpec.upto kdfCutsSpec)) kdfCutsUptoCard

/-- THE SECOND FORM's CARD OF 'casketlaw3.KdfExpands'. -/
def kdfExpandsUptoCard : Claim7 := { stood := { row := kdfExpandsUptoRow, standIns := [], harness := (true, "3b0fadc0c8d6629c0949324d97b8b3f6ed696a652bfe0fe05d1589d33ca5723a"), looks := false }, kinds := [], alts := [], laidByText := true, laidKinds := [.data, .data, .data, .data], laidTests := true, laidLooks := .later }
def KdfExpandsUptoCardSaid : Prop := Claim7.holds Tryd.pinned (.plain (OpenSpec.upto kdfExpandsSpec)) kdfExpandsUptoCard

/-- THE SECOND FORM's CARD OF 'casketlaw3.KdfPasses'. -/
def kdfPassesUptoCard : Claim7 := { stood := { row := kdfPassesUptoRow, standIns := [], harness := (true, "3b0fadc0c8d6629c0949324d97b8b3f6ed696a652bfe0fe05d1589d33ca5723a"), looks := false }, kinds := [], alts := [], laidByText := true, laidKinds := [.data, .data, .data, .data], laidTests := true, laidLooks := .later }
def KdfPassesUptoCardSaid : Prop := Claim7.holds Tryd.pinned (.plain (OpenSpec.upto kdfPassesSpec)) kdfPassesUptoCard

/-- THE SECOND FORM's CARD OF 'casketlaw3.KdfPrefix'. -/
def kdfPrefixUptoCard : Claim7 := { stood := { row := kdfPrefixUptoRow, standIns := [], harness := (true, "3b0fadc0c8d6629c0949324d97b8b3f6ed696a652bfe0fe05d1589d33ca5723a"), looks := false }, kinds := [], alts := [], laidByText := true, laidKinds := [.data, .data], laidTests := true, laidLooks := .later }
def KdfPrefixUptoCardSaid : Prop := Claim7.holds Tryd.pinned (.plain (OpenSpec.upto kdfPrefixSpec)) kdfPrefixUptoCard

/-- THE SECOND FORM's CARD OF 'casketlaw3.KdfBuilt'. -/
def kdfBuiltUptoCard : Claim7 := { stood := { row := kdfBuiltUptoRow, standIns := [], harness := (true, "3b0fadc0c8d6629c0949324d97b8b3f6ed696a652bfe0fe05d1589d33ca5723a"), looks := false }, kinds := [], alts := [], laidByText := true, laidKinds := [.data, .data], laidTests := true, laidLooks := .later }
def KdfBuiltUptoCardSaid : Prop := Claim7.holds Tryd.pinned (.plain (OpenSpec.upto kdfBuiltSpec)) kdfBuiltUptoCard

/-- THE SECOND FORM's CARD OF 'casketlaw3.KdfKnown'. -/
def kdfKnownUptoCard : Claim7 := { stood := { row := kdfKnownUptoRow, standIns := [], harness := (true, "3b0fadc0c8d6629c0949324d97b8b3f6ed696a652bfe0fe05d1589d33ca5723a"), looks := false }, kinds := [], alts := [], laidByText := true, laidKinds := [.data, .data], laidTests := true, laidLooks := .later }
def KdfKnownUptoCardSaid : Prop := Claim7.holds Tryd.pinned (.plain (OpenSpec.upto kdfKnownSpec)) kdfKnownUptoCard
end Rows
end Go.Proofs.YtbpaknnnkmjgjaaDoor
