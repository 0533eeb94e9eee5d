/-
  DERIVED. GIVEN WITH THE SEED: THE CARDS: each row of YtkagmoaapampgaaDoorRows.lean that lists a variable, with what it lists TIED to the program's text (the seventh form; the later family's looks); each row that meets fmt, with fmt's text TOLD by the authors' own Lean function (tested against real Go, not proved from fmt's source: count such statements apart). THE CARD IS WHAT COUNTS. Prove the row's statement (the work); the ties are given (YtkagmoaapampgaaDoorTie.lean); close each card by the builder's one call (the guide's Derived/Test/ToyasCard.lean, 'card_holds'). Laid BY PROGRAM, IN A SANDBOX (cutbox-door.mjs). By AI agents, Wed Nov 11 2026. No macro, syntax, notation, axiom, sorry.
-/
import Derived.Test.YtkagmoaapampgaaDoorRows
import GoSem.ClaimSeven
namespace Go.Proofs.YtkagmoaapampgaaDoor
namespace Rows

/-- THE TIED CARD OF 'casketlaw2.ShaSums'. -/
def shaSumsCard : Claim7 := { stood := { row := shaSumsRow, standIns := [], harness := (true, "8e60cbc0faf1e525437b55407cacce471a72e33158a56619c78f28e7cca0a44b"), looks := false }, kinds := [], alts := [], laidByText := true, laidKinds := [.data, .data, .data, .data], laidTests := true, laidLooks := .later }
def ShaSumsCardSaid : Prop := Claim7.holds Tryd.pinned (.plain (OpenSpec.ofChange shaSumsSpec)) shaSumsCard

/-- THE TIED CARD OF 'casketlaw2.ShaKnown'. -/
def shaKnownCard : Claim7 := { stood := { row := shaKnownRow, standIns := [], harness := (true, "8e60cbc0faf1e525437b55407cacce471a72e33158a56619c78f28e7cca0a44b"), looks := false }, kinds := [], alts := [], laidByText := true, laidKinds := [.data, .data], laidTests := true, laidLooks := .later }
def ShaKnownCardSaid : Prop := Claim7.holds Tryd.pinned (.plain (OpenSpec.ofChange shaKnownSpec)) shaKnownCard

/-- THE TIED CARD OF 'casketlaw2.ShaHexBack'. -/
def shaHexBackCard : Claim7 := { stood := { row := shaHexBackRow, standIns := [], harness := (true, "8e60cbc0faf1e525437b55407cacce471a72e33158a56619c78f28e7cca0a44b"), looks := false }, kinds := [], alts := [], laidByText := true, laidKinds := [.data, .data], laidTests := true, laidLooks := .later }
def ShaHexBackCardSaid : Prop := Claim7.holds Tryd.pinned (.plain (OpenSpec.ofChange shaHexBackSpec)) shaHexBackCard

/-- THE TIED CARD OF 'casketlaw2.ShaHashers'. -/
def shaHashersCard : Claim7 := { stood := { row := shaHashersRow, standIns := [], harness := (true, "8e60cbc0faf1e525437b55407cacce471a72e33158a56619c78f28e7cca0a44b"), looks := false }, kinds := [], alts := [], laidByText := true, laidKinds := [.data, .data, .data, .data], laidTests := true, laidLooks := .later }
def ShaHashersCardSaid : Prop := Claim7.holds Tryd.pinned (.plain (OpenSpec.ofChange shaHashersSpec)) shaHashersCard

/-- THE TIED CARD OF 'casketlaw2.ShaStates'. -/
def shaStatesCard : Claim7 := { stood := { row := shaStatesRow, standIns := [], harness := (true, "8e60cbc0faf1e525437b55407cacce471a72e33158a56619c78f28e7cca0a44b"), looks := false }, kinds := [], alts := [], laidByText := true, laidKinds := [.data, .data], laidTests := true, laidLooks := .later }
def ShaStatesCardSaid : Prop := Claim7.holds Tryd.pinned (.plain (OpenSpec.ofChange shaStatesSpec)) shaStatesCard

/-- THE TIED CARD OF 'casketlaw2.ShaCuts'. -/
def shaCutsCard : Claim7 := { stood := { row := shaCutsRow, standIns := [], harness := (true, "8e60cbc0faf1e525437b55407cacce471a72e33158a56619c78f28e7cca0a44b"), looks := false }, kinds := [], alts := [], laidByText := true, laidKinds := [.data, .data], laidTests := true, laidLooks := .later }
def ShaCutsCardSaid : Prop := Claim7.holds Tryd.pinned (.plain (OpenSpec.ofChange shaCutsSpec)) shaCutsCard

/-- THE SECOND FORM's CARD OF 'casketlaw2.ShaSums'. -/
def shaSumsUptoCard : Claim7 := { stood := { row := shaSumsUptoRow, standIns := [], harness := (true, "8e60cbc0faf1e525437b55407cacce471a72e33158a56619c78f28e7cca0a44b"), looks := false }, kinds := [], alts := [], laidByText := true, laidKinds := [.data, .data, .data, .data], laidTests := true, laidLooks := .later }
def ShaSumsUptoCardSaid : Prop := Claim7.holds Tryd.pinned (.plain (OpenSpec.upto shaSumsSpec)) shaSumsUptoCard

/-- THE SECOND FORM's CARD OF 'casketlaw2.ShaKnown'. -/
def shaKnownUptoCard : Claim7 := { stood := { row := shaKnownUptoRow, standIns := [], harness := (true, "8e60cbc0faf1e525437b55407cacce471a72e33158a56619c78f28e7cca0a44b"), looks := false }, kinds := [], alts := [], laidByText := true, laidKinds := [.data, .data], laidTests := true, laidLooks := .later }
def ShaKnownUptoCardSaid : Prop := Claim7.holds Tryd.pinned (.plain (OpenSpec.upto shaKnownSpec)) shaKnownUptoCard

/-- THE SECOND FORM's CARD OF 'casketlaw2.ShaHexBack'. -/
def shaHexBackUptoCard : Claim7 := { stood := { row := shaHexBackUptoRow, standIns := [], harness := (true, "8e60cbc0faf1e525437b55407cacce471a72e33158a56619c78f28e7cca0a44b"), looks := false }, kinds := [], alts := [], laidByText := true, laidKinds := [.data, .data], laidTests := true, laidLooks := .later }
def ShaHexBackUptoCardSaid : Prop := Claim7.holds Tryd.pinned (.plain (OpenSpec.upto shaHexBackSpec)) shaHexBackUptoCard

/-- THE SECOND FORM's CARD OF 'casketlaw2.ShaHashers'. -/
def shaHashersUptoCard : Claim7 := { stood := { row := shaHashersUptoRow, standIns := [], harness := (true, "8e60cbc0faf1e525437b55407cacce471a72e33158a56619c78f28e7cca0a44b"), looks := false }, kinds := [], alts := [], laidByText := true, laidKinds := [.data, .data, .data, .data], laidTests := true, laidLooks := .later }
def ShaHashersUptoCardSaid : Prop := Claim7.holds Tryd.pinned (.plain (OpenSpec.upto shaHashersSpec)) shaHashersUptoCard

/-- THE SECOND FORM's CARD OF 'casketlaw2.ShaStates'. -/
def shaStatesUptoCard : Claim7 := { stood := { row := shaStatesUptoRow, standIns := [], harness := (true, "8e60cbc0faf1e525437b55407cacce471a72e33158a56619c78f28e7cca0a44b"), looks := false }, kinds := [], alts := [], laidByText := true, laidKinds := [.data, .data], laidTests := true, laidLooks := .later }
def ShaStatesUptoCardSaid : Prop := Claim7.holds Tryd.pinned (.plain (OpenSpec.upto shaStatesSpec)) shaStatesUptoCard

/-- THE SECOND FORM's CARD OF 'casketlaw2.ShaCuts'. -/
def shaCutsUptoCard : Claim7 := { stood := { row := shaCutsUptoRow, standIns := [], harness := (true, "8e60cbc0faf1e525437b55407cacce471a72e33158a56619c78f28e7cca0a44b"), looks := false }, kinds := [], alts := [], laidByText := true, laidKinds := [.data, .data], laidTests := true, laidLooks := .later }
def ShaCutsUptoCardSaid : Prop := Claim7.holds Tryd.pinned (.plain (OpenSpec.upto shaCutsSpec)) shaCutsUptoCard
end Rows
end Go.Proofs.YtkagmoaapampgaaDoor
