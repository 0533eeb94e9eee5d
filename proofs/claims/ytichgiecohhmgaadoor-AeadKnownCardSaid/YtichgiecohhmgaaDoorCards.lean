/-
  DERIVED. GIVEN WITH THE SEED: THE CARDS: each row of YtichgiecohhmgaaDoorRows.lean that lists a variable, with what it lists TIED to the program's text (the seventh form; the later family's looks); each row that meets fmt, with fmt's text TOLD by the authors' own Lean function (tested against real Go, not proved from fmt's source: count such statements apart). THE CARD IS WHAT COUNTS. Prove the row's statement (the work); the ties are given (YtichgiecohhmgaaDoorTie.lean); close each card by the builder's one call (the guide's Derived/Test/ToyasCard.lean, 'card_holds'). Laid BY PROGRAM, IN A SANDBOX (cutbox-door.mjs). By AI agents, Wed Nov 11 2026. No macro, syntax, notation, axiom, sorry.
-/
import Derived.Test.YtichgiecohhmgaaDoorRows
import GoSem.ClaimSeven
namespace Go.Proofs.YtichgiecohhmgaaDoor
namespace Rows

/-- THE TIED CARD OF 'casketlaw6.AeadSeals'. -/
def aeadSealsCard : Claim7 := { stood := { row := aeadSealsRow, standIns := [], harness := (true, "d5effbbbbb1af8563676db6255bcc23911c0b8ede65bf96051bcb915aa42a0df"), looks := false }, kinds := [], alts := [], laidByText := true, laidKinds := [.data, .data], laidTests := true, laidLooks := .later }
def AeadSealsCardSaid : Prop := Claim7.holds Tryd.pinned (.plain (OpenSpec.ofChange aeadSealsSpec)) aeadSealsCard

/-- THE TIED CARD OF 'casketlaw6.AeadBuilt'. -/
def aeadBuiltCard : Claim7 := { stood := { row := aeadBuiltRow, standIns := [], harness := (true, "d5effbbbbb1af8563676db6255bcc23911c0b8ede65bf96051bcb915aa42a0df"), looks := false }, kinds := [], alts := [], laidByText := true, laidKinds := [.data], laidTests := true, laidLooks := .later }
def AeadBuiltCardSaid : Prop := Claim7.holds Tryd.pinned (.plain (OpenSpec.ofChange aeadBuiltSpec)) aeadBuiltCard

/-- THE TIED CARD OF 'casketlaw6.AeadOpens'. -/
def aeadOpensCard : Claim7 := { stood := { row := aeadOpensRow, standIns := [], harness := (true, "d5effbbbbb1af8563676db6255bcc23911c0b8ede65bf96051bcb915aa42a0df"), looks := false }, kinds := [], alts := [], laidByText := true, laidKinds := [.data, .data], laidTests := true, laidLooks := .later }
def AeadOpensCardSaid : Prop := Claim7.holds Tryd.pinned (.plain (OpenSpec.ofChange aeadOpensSpec)) aeadOpensCard

/-- THE TIED CARD OF 'casketlaw6.AeadBack'. -/
def aeadBackCard : Claim7 := { stood := { row := aeadBackRow, standIns := [], harness := (true, "d5effbbbbb1af8563676db6255bcc23911c0b8ede65bf96051bcb915aa42a0df"), looks := false }, kinds := [], alts := [], laidByText := true, laidKinds := [.data], laidTests := true, laidLooks := .later }
def AeadBackCardSaid : Prop := Claim7.holds Tryd.pinned (.plain (OpenSpec.ofChange aeadBackSpec)) aeadBackCard

/-- THE TIED CARD OF 'casketlaw6.AeadOnly'. -/
def aeadOnlyCard : Claim7 := { stood := { row := aeadOnlyRow, standIns := [], harness := (true, "d5effbbbbb1af8563676db6255bcc23911c0b8ede65bf96051bcb915aa42a0df"), looks := false }, kinds := [], alts := [], laidByText := true, laidKinds := [.data], laidTests := true, laidLooks := .later }
def AeadOnlyCardSaid : Prop := Claim7.holds Tryd.pinned (.plain (OpenSpec.ofChange aeadOnlySpec)) aeadOnlyCard

/-- THE TIED CARD OF 'casketlaw6.AeadLong'. -/
def aeadLongCard : Claim7 := { stood := { row := aeadLongRow, standIns := [], harness := (true, "d5effbbbbb1af8563676db6255bcc23911c0b8ede65bf96051bcb915aa42a0df"), looks := false }, kinds := [], alts := [], laidByText := true, laidKinds := [.data], laidTests := true, laidLooks := .later }
def AeadLongCardSaid : Prop := Claim7.holds Tryd.pinned (.plain (OpenSpec.ofChange aeadLongSpec)) aeadLongCard

/-- THE TIED CARD OF 'casketlaw6.AeadKnown'. -/
def aeadKnownCard : Claim7 := { stood := { row := aeadKnownRow, standIns := [], harness := (true, "d5effbbbbb1af8563676db6255bcc23911c0b8ede65bf96051bcb915aa42a0df"), looks := false }, kinds := [], alts := [], laidByText := true, laidKinds := [.data], laidTests := true, laidLooks := .later }
def AeadKnownCardSaid : Prop := Claim7.holds Tryd.pinned (.plain (OpenSpec.ofChange aeadKnownSpec)) aeadKnownCard

/-- THE SECOND FORM's CARD OF 'casketlaw6.AeadSeals'. -/
def aeadSealsUptoCard : Claim7 := { stood := { row := aeadSealsUptoRow, standIns := [], harness := (true, "d5effbbbbb1af8563676db6255bcc23911c0b8ede65bf96051bcb915aa42a0df"), looks := false }, kinds := [], alts := [], laidByText := true, laidKinds := [.data, .data], laidTests := true, laidLooks := .later }
def AeadSealsUptoCardSaid : Prop := Claim7.holds Tryd.pinned (.plain (OpenSpec.upto aeadSealsSpec)) aeadSealsUptoCard

/-- THE SECOND FORM's CARD OF 'casketlaw6.AeadBuilt'. -/
def aeadBuiltUptoCard : Claim7 := { stood := { row := aeadBuiltUptoRow, standIns := [], harness := (true, "d5effbbbbb1af8563676db6255bcc23911c0b8ede65bf96051bcb915aa42a0df"), looks := false }, kinds := [], alts := [], laidByText := true, laidKinds := [.data], laidTests := true, laidLooks := .later }
def AeadBuiltUptoCardSaid : Prop := Claim7.holds Tryd.pinned (.plain (OpenSpec.upto aeadBuiltSpec)) aeadBuiltUptoCard

/-- THE SECOND FORM's CARD OF 'casketlaw6.AeadOpens'. -/
def aeadOpensUptoCard : Claim7 := { stood := { row := aeadOpensUptoRow, standIns := [], harness := (true, "d5effbbbbb1af8563676db6255bcc23911c0b8ede65bf96051bcb915aa42a0df"), looks := false }, kinds := [], alts := [], laidByText := true, laidKinds := [.data, .data], laidTests := true, laidLooks := .later }
def AeadOpensUptoCardSaid : Prop := Claim7.holds Tryd.pinned (.plain (OpenSpec.upto aeadOpensSpec)) aeadOpensUptoCard

/-- THE SECOND FORM's CARD OF 'casketlaw6.AeadBack'. -/
def aeadBackUptoCard : Claim7 := { stood := { row := aeadBackUptoRow, standIns := [], harness := (true, "d5effbbbbb1af8563676db6255bcc23911c0b8ede65bf96051bcb915aa42a0df"), looks := false }, kinds := [], alts := [], laidByText := true, laidKinds := [.data], laidTests := true, laidLooks := .later }
def AeadBackUptoCardSaid : Prop := Claim7.holds Tryd.pinned (.plain (OpenSpec.upto aeadBackSpec)) aeadBackUptoCard

/-- THE SECOND FORM's CARD OF 'casketlaw6.AeadOnly'. -/
def aeadOnlyUptoCard : Claim7 := { stood := { row := aeadOnlyUptoRow, standIns := [], harness := (true, "d5effbbbbb1af8563676db6255bcc23911c0b8ede65bf96051bcb915aa42a0df"), looks := false }, kinds := [], alts := [], laidByText := true, laidKinds := [.data], laidTests := true, laidLooks := .later }
def AeadOnlyUptoCardSaid : Prop := Claim7.holds Tryd.pinned (.plain (OpenSpec.upto aeadOnlySpec)) aeadOnlyUptoCard

/-- THE SECOND FORM's CARD OF 'casketlaw6.AeadLong'. -/
def aeadLongUptoCard : Claim7 := { stood := { row := aeadLongUptoRow, standIns := [], harness := (true, "d5effbbbbb1af8563676db6255bcc23911c0b8ede65bf96051bcb915aa42a0df"), looks := false }, kinds := [], alts := [], laidByText := true, laidKinds := [.data], laidTests := true, laidLooks := .later }
def AeadLongUptoCardSaid : Prop := Claim7.holds Tryd.pinned (.plain (OpenSpec.upto aeadLongSpec)) aeadLongUptoCard

/-- THE SECOND FORM's CARD OF 'casketlaw6.AeadKnown'. -/
def aeadKnownUptoCard : Claim7 := { stood := { row := aeadKnownUptoRow, standIns := [], harness := (true, "d5effbbbbb1af8563676db6255bcc23911c0b8ede65bf96051bcb915aa42a0df"), looks := false }, kinds := [], alts := [], laidByText := true, laidKinds := [.data], laidTests := true, laidLooks := .later }
def AeadKnownUptoCardSaid : Prop := Claim7.holds Tryd.pinned (.plain (OpenSpec.upto aeadKnownSpec)) aeadKnownUptoCard
end Rows
end Go.Proofs.YtichgiecohhmgaaDoor
