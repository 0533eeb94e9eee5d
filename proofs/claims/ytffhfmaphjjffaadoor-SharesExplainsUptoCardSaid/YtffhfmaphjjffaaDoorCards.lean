/-
  DERIVED. GIVEN WITH THE SEED: THE CARDS: each row of YtffhfmaphjjffaaDoorRows.lean that lists a variable, with what it lists TIED to the program's text (the seventh form; the later family's looks); each row that meets fmt, with fmt's text TOLD by the authors' own Lean function (tested against real Go, not proved from fmt's source: count such statements apart). THE CARD IS WHAT COUNTS. Prove the row's statement (the work); the ties are given (YtffhfmaphjjffaaDoorTie.lean); close each card by the builder's one call (the guide's Derived/Test/ToyasCard.lean, 'card_holds'). Laid BY PROGRAM, IN A SANDBOX (cutbox-door.mjs). By AI agents, Wed Nov 11 2026. No macro, syntax, notation, axiom, sorry.
-/
import Derived.Test.YtffhfmaphjjffaaDoorRows
import GoSem.ClaimSeven
namespace Go.Proofs.YtffhfmaphjjffaaDoor
namespace Rows

/-- THE TIED CARD OF 'casketlaw26.SharesSplits'. -/
def sharesSplitsCard : Claim7 := { stood := { row := sharesSplitsRow, standIns := [], harness := (true, "6f49947c17386a37ff028230f5af51b37427b244ecad8aa264b43f0b68619b19"), looks := false }, kinds := [], alts := [], laidByText := true, laidKinds := [.data, .data, .data, .data], laidTests := true, laidLooks := .later }
def SharesSplitsCardSaid : Prop := Claim7.holds Tryd.pinned (.plain (OpenSpec.ofChange sharesSplitsSpec)) sharesSplitsCard

/-- THE TIED CARD OF 'casketlaw26.SharesLinear'. -/
def sharesLinearCard : Claim7 := { stood := { row := sharesLinearRow, standIns := [], harness := (true, "6f49947c17386a37ff028230f5af51b37427b244ecad8aa264b43f0b68619b19"), looks := false }, kinds := [], alts := [], laidByText := true, laidKinds := [.data, .data], laidTests := true, laidLooks := .later }
def SharesLinearCardSaid : Prop := Claim7.holds Tryd.pinned (.plain (OpenSpec.ofChange sharesLinearSpec)) sharesLinearCard

/-- THE TIED CARD OF 'casketlaw26.SharesJoins'. -/
def sharesJoinsCard : Claim7 := { stood := { row := sharesJoinsRow, standIns := [], harness := (true, "6f49947c17386a37ff028230f5af51b37427b244ecad8aa264b43f0b68619b19"), looks := false }, kinds := [], alts := [], laidByText := true, laidKinds := [.data, .data, .data, .data], laidTests := true, laidLooks := .later }
def SharesJoinsCardSaid : Prop := Claim7.holds Tryd.pinned (.plain (OpenSpec.ofChange sharesJoinsSpec)) sharesJoinsCard

/-- THE TIED CARD OF 'casketlaw26.SharesExplains'. -/
def sharesExplainsCard : Claim7 := { stood := { row := sharesExplainsRow, standIns := [], harness := (true, "6f49947c17386a37ff028230f5af51b37427b244ecad8aa264b43f0b68619b19"), looks := false }, kinds := [], alts := [], laidByText := true, laidKinds := [.data, .data, .data, .data], laidTests := true, laidLooks := .later }
def SharesExplainsCardSaid : Prop := Claim7.holds Tryd.pinned (.plain (OpenSpec.ofChange sharesExplainsSpec)) sharesExplainsCard

/-- THE TIED CARD OF 'casketlaw26.SharesAny'. -/
def sharesAnyCard : Claim7 := { stood := { row := sharesAnyRow, standIns := [], harness := (true, "6f49947c17386a37ff028230f5af51b37427b244ecad8aa264b43f0b68619b19"), looks := false }, kinds := [], alts := [], laidByText := true, laidKinds := [.data, .data], laidTests := true, laidLooks := .later }
def SharesAnyCardSaid : Prop := Claim7.holds Tryd.pinned (.plain (OpenSpec.ofChange sharesAnySpec)) sharesAnyCard

/-- THE TIED CARD OF 'casketlaw26.SharesSpoilt'. -/
def sharesSpoiltCard : Claim7 := { stood := { row := sharesSpoiltRow, standIns := [], harness := (true, "6f49947c17386a37ff028230f5af51b37427b244ecad8aa264b43f0b68619b19"), looks := false }, kinds := [], alts := [], laidByText := true, laidKinds := [.data, .data], laidTests := true, laidLooks := .later }
def SharesSpoiltCardSaid : Prop := Claim7.holds Tryd.pinned (.plain (OpenSpec.ofChange sharesSpoiltSpec)) sharesSpoiltCard

/-- THE TIED CARD OF 'casketlaw26.SharesMixed'. -/
def sharesMixedCard : Claim7 := { stood := { row := sharesMixedRow, standIns := [], harness := (true, "6f49947c17386a37ff028230f5af51b37427b244ecad8aa264b43f0b68619b19"), looks := false }, kinds := [], alts := [], laidByText := true, laidKinds := [.data, .data], laidTests := true, laidLooks := .later }
def SharesMixedCardSaid : Prop := Claim7.holds Tryd.pinned (.plain (OpenSpec.ofChange sharesMixedSpec)) sharesMixedCard

/-- THE TIED CARD OF 'casketlaw26.SharesSecret'. -/
def sharesSecretCard : Claim7 := { stood := { row := sharesSecretRow, standIns := [], harness := (true, "6f49947c17386a37ff028230f5af51b37427b244ecad8aa264b43f0b68619b19"), looks := false }, kinds := [], alts := [], laidByText := true, laidKinds := [.data, .data], laidTests := true, laidLooks := .later }
def SharesSecretCardSaid : Prop := Claim7.holds Tryd.pinned (.plain (OpenSpec.ofChange sharesSecretSpec)) sharesSecretCard

/-- THE SECOND FORM's CARD OF 'casketlaw26.SharesSplits'. -/
def sharesSplitsUptoCard : Claim7 := { stood := { row := sharesSplitsUptoRow, standIns := [], harness := (true, "6f49947c17386a37ff028230f5af51b37427b244ecad8aa264b43f0b68619b19"), looks := false }, kinds := [], alts := [], laidByText := true, laidKinds := [.data, .data, .data, .data], laidTests := true, laidLooks := .later }
def SharesSplitsUptoCardSaid : Prop := Claim7.holds Tryd.pinned (.plain (OpenSpec.upto sharesSplitsSpec)) sharesSplitsUptoCard

/-- THE SECOND FORM's CARD OF 'casketlaw26.SharesLinear'. -/
def sharesLinearUptoCard : Claim7 := { stood := { row := sharesLinearUptoRow, standIns := [], harness := (true, "6f49947c17386a37ff028230f5af51b37427b244ecad8aa264b43f0b68619b19"), looks := false }, kinds := [], alts := [], laidByText := true, laidKinds := [.data, .data], laidTests := true, laidLooks := .later }
def SharesLinearUptoCardSaid : Prop := Claim7.holds Tryd.pinned (.plain (OpenSpec.upto sharesLinearSpec)) sharesLinearUptoCard

/-- THE SECOND FORM's CARD OF 'casketlaw26.SharesJoins'. -/
def sharesJoinsUptoCard : Claim7 := { stood := { row := sharesJoinsUptoRow, standIns := [], harness := (true, "6f49947c17386a37ff028230f5af51b37427b244ecad8aa264b43f0b68619b19"), looks := false }, kinds := [], alts := [], laidByText := true, laidKinds := [.data, .data, .data, .data], laidTests := true, laidLooks := .later }
def SharesJoinsUptoCardSaid : Prop := Claim7.holds Tryd.pinned (.plain (OpenSpec.upto sharesJoinsSpec)) sharesJoinsUptoCard

/-- THE SECOND FORM's CARD OF 'casketlaw26.SharesExplains'. -/
def sharesExplainsUptoCard : Claim7 := { stood := { row := sharesExplainsUptoRow, standIns := [], harness := (true, "6f49947c17386a37ff028230f5af51b37427b244ecad8aa264b43f0b68619b19"), looks := false }, kinds := [], alts := [], laidByText := true, laidKinds := [.data, .data, .data, .data], laidTests := true, laidLooks := .later }
def SharesExplainsUptoCardSaid : Prop := Claim7.holds Tryd.pinned (.plain (OpenSpec.upto sharesExplainsSpec)) sharesExplainsUptoCard

/-- THE SECOND FORM's CARD OF 'casketlaw26.SharesAny'. -/
def sharesAnyUptoCard : Claim7 := { stood := { row := sharesAnyUptoRow, standIns := [], harness := (true, "6f49947c17386a37ff028230f5af51b37427b244ecad8aa264b43f0b68619b19"), looks := false }, kinds := [], alts := [], laidByText := true, laidKinds := [.data, .data], laidTests := true, laidLooks := .later }
def SharesAnyUptoCardSaid : Prop := Claim7.holds Tryd.pinned (.plain (OpenSpec.upto sharesAnySpec)) sharesAnyUptoCard

/-- THE SECOND FORM's CARD OF 'casketlaw26.SharesSpoilt'. -/
def sharesSpoiltUptoCard : Claim7 := { stood := { row := sharesSpoiltUptoRow, standIns := [], harness := (true, "6f49947c17386a37ff028230f5af51b37427b244ecad8aa264b43f0b68619b19"), looks := false }, kinds := [], alts := [], laidByText := true, laidKinds := [.data, .data], laidTests := true, laidLooks := .later }
def SharesSpoiltUptoCardSaid : Prop := Claim7.holds Tryd.pinned (.plain (OpenSpec.upto sharesSpoiltSpec)) sharesSpoiltUptoCard

/-- THE SECOND FORM's CARD OF 'casketlaw26.SharesMixed'. -/
def sharesMixedUptoCard : Claim7 := { stood := { row := sharesMixedUptoRow, standIns := [], harness := (true, "6f49947c17386a37ff028230f5af51b37427b244ecad8aa264b43f0b68619b19"), looks := false }, kinds := [], alts := [], laidByText := true, laidKinds := [.data, .data], laidTests := true, laidLooks := .later }
def SharesMixedUptoCardSaid : Prop := Claim7.holds Tryd.pinned (.plain (OpenSpec.upto sharesMixedSpec)) sharesMixedUptoCard

/-- THE SECOND FORM's CARD OF 'casketlaw26.SharesSecret'. -/
def sharesSecretUptoCard : Claim7 := { stood := { row := sharesSecretUptoRow, standIns := [], harness := (true, "6f49947c17386a37ff028230f5af51b37427b244ecad8aa264b43f0b68619b19"), looks := false }, kinds := [], alts := [], laidByText := true, laidKinds := [.data, .data], laidTests := true, laidLooks := .later }
def SharesSecretUptoCardSaid : Prop := Claim7.holds Tryd.pinned (.plain (OpenSpec.upto sharesSecretSpec)) sharesSecretUptoCard
end Rows
end Go.Proofs.YtffhfmaphjjffaaDoor
