/-
  DERIVED. GIVEN WITH THE SEED: THE CARDS: each row of YtmgfhamfbdaeiaaDoorRows.lean that lists a variable, with what it lists TIED to the program's text (the seventh form; the later family's looks); each row that meets fmt, with fmt's text TOLD by the authors' own Lean function (tested against real Go, not proved from fmt's source: count such statements apart). THE CARD IS WHAT COUNTS. Prove the row's statement (the work); the ties are given (YtmgfhamfbdaeiaaDoorTie.lean); close each card by the builder's one call (the guide's Derived/Test/ToyasCard.lean, 'card_holds'). Laid BY PROGRAM, IN A SANDBOX (cutbox-door.mjs). By AI agents, Wed Nov 11 2026. No macro, syntax, notation, axiom, sorry.
-/
import Derived.Test.YtmgfhamfbdaeiaaDoorRows
import GoSem.ClaimSeven
namespace Go.Proofs.YtmgfhamfbdaeiaaDoor
namespace Rows

/-- THE TIED CARD OF 'casketlaw4.ChachaHashes'. -/
def chachaHashesCard : Claim7 := { stood := { row := chachaHashesRow, standIns := [], harness := (true, "17f872bc2ca8cd4b34f538015c08d37d44800b83b190b9ebf7eae58277ca2c56"), looks := false }, kinds := [], alts := [], laidByText := true, laidKinds := [.data, .data], laidTests := true, laidLooks := .later }
def ChachaHashesCardSaid : Prop := Claim7.holds Tryd.pinned (.plain (OpenSpec.ofChange chachaHashesSpec)) chachaHashesCard

/-- THE TIED CARD OF 'casketlaw4.ChachaBlocks'. -/
def chachaBlocksCard : Claim7 := { stood := { row := chachaBlocksRow, standIns := [], harness := (true, "17f872bc2ca8cd4b34f538015c08d37d44800b83b190b9ebf7eae58277ca2c56"), looks := false }, kinds := [], alts := [], laidByText := true, laidKinds := [.data, .data], laidTests := true, laidLooks := .later }
def ChachaBlocksCardSaid : Prop := Claim7.holds Tryd.pinned (.plain (OpenSpec.ofChange chachaBlocksSpec)) chachaBlocksCard

/-- THE TIED CARD OF 'casketlaw4.ChachaXors'. -/
def chachaXorsCard : Claim7 := { stood := { row := chachaXorsRow, standIns := [], harness := (true, "17f872bc2ca8cd4b34f538015c08d37d44800b83b190b9ebf7eae58277ca2c56"), looks := false }, kinds := [], alts := [], laidByText := true, laidKinds := [.data, .data], laidTests := true, laidLooks := .later }
def ChachaXorsCardSaid : Prop := Claim7.holds Tryd.pinned (.plain (OpenSpec.ofChange chachaXorsSpec)) chachaXorsCard

/-- THE TIED CARD OF 'casketlaw4.ChachaKnown'. -/
def chachaKnownCard : Claim7 := { stood := { row := chachaKnownRow, standIns := [], harness := (true, "17f872bc2ca8cd4b34f538015c08d37d44800b83b190b9ebf7eae58277ca2c56"), looks := false }, kinds := [], alts := [], laidByText := true, laidKinds := [.data], laidTests := true, laidLooks := .later }
def ChachaKnownCardSaid : Prop := Claim7.holds Tryd.pinned (.plain (OpenSpec.ofChange chachaKnownSpec)) chachaKnownCard

/-- THE TIED CARD OF 'casketlaw4.ChachaLongs'. -/
def chachaLongsCard : Claim7 := { stood := { row := chachaLongsRow, standIns := [], harness := (true, "17f872bc2ca8cd4b34f538015c08d37d44800b83b190b9ebf7eae58277ca2c56"), looks := false }, kinds := [], alts := [], laidByText := true, laidKinds := [.data, .data], laidTests := true, laidLooks := .later }
def ChachaLongsCardSaid : Prop := Claim7.holds Tryd.pinned (.plain (OpenSpec.ofChange chachaLongsSpec)) chachaLongsCard

/-- THE TIED CARD OF 'casketlaw4.ChachaStream'. -/
def chachaStreamCard : Claim7 := { stood := { row := chachaStreamRow, standIns := [], harness := (true, "17f872bc2ca8cd4b34f538015c08d37d44800b83b190b9ebf7eae58277ca2c56"), looks := false }, kinds := [], alts := [], laidByText := true, laidKinds := [.data], laidTests := true, laidLooks := .later }
def ChachaStreamCardSaid : Prop := Claim7.holds Tryd.pinned (.plain (OpenSpec.ofChange chachaStreamSpec)) chachaStreamCard

/-- THE TIED CARD OF 'casketlaw4.ChachaEnds'. -/
def chachaEndsCard : Claim7 := { stood := { row := chachaEndsRow, standIns := [], harness := (true, "17f872bc2ca8cd4b34f538015c08d37d44800b83b190b9ebf7eae58277ca2c56"), looks := false }, kinds := [], alts := [], laidByText := true, laidKinds := [.data], laidTests := true, laidLooks := .later }
def ChachaEndsCardSaid : Prop := Claim7.holds Tryd.pinned (.plain (OpenSpec.ofChange chachaEndsSpec)) chachaEndsCard

/-- THE TIED CARD OF 'casketlaw4.ChachaBack'. -/
def chachaBackCard : Claim7 := { stood := { row := chachaBackRow, standIns := [], harness := (true, "17f872bc2ca8cd4b34f538015c08d37d44800b83b190b9ebf7eae58277ca2c56"), looks := false }, kinds := [], alts := [], laidByText := true, laidKinds := [.data], laidTests := true, laidLooks := .later }
def ChachaBackCardSaid : Prop := Claim7.holds Tryd.pinned (.plain (OpenSpec.ofChange chachaBackSpec)) chachaBackCard

/-- THE TIED CARD OF 'casketlaw4.ChachaLongIsShort'. -/
def chachaLongIsShortCard : Claim7 := { stood := { row := chachaLongIsShortRow, standIns := [], harness := (true, "17f872bc2ca8cd4b34f538015c08d37d44800b83b190b9ebf7eae58277ca2c56"), looks := false }, kinds := [], alts := [], laidByText := true, laidKinds := [.data], laidTests := true, laidLooks := .later }
def ChachaLongIsShortCardSaid : Prop := Claim7.holds Tryd.pinned (.plain (OpenSpec.ofChange chachaLongIsShortSpec)) chachaLongIsShortCard

/-- THE TIED CARD OF 'casketlaw6.AeadSeals'. -/
def aeadSealsCard : Claim7 := { stood := { row := aeadSealsRow, standIns := [], harness := (true, "17f872bc2ca8cd4b34f538015c08d37d44800b83b190b9ebf7eae58277ca2c56"), looks := false }, kinds := [], alts := [], laidByText := true, laidKinds := [.data, .data], laidTests := true, laidLooks := .later }
def AeadSealsCardSaid : Prop := Claim7.holds Tryd.pinned (.plain (OpenSpec.ofChange aeadSealsSpec)) aeadSealsCard

/-- THE TIED CARD OF 'casketlaw6.AeadBuilt'. -/
def aeadBuiltCard : Claim7 := { stood := { row := aeadBuiltRow, standIns := [], harness := (true, "17f872bc2ca8cd4b34f538015c08d37d44800b83b190b9ebf7eae58277ca2c56"), looks := false }, kinds := [], alts := [], laidByText := true, laidKinds := [.data], laidTests := true, laidLooks := .later }
def AeadBuiltCardSaid : Prop := Claim7.holds Tryd.pinned (.plain (OpenSpec.ofChange aeadBuiltSpec)) aeadBuiltCard

/-- THE TIED CARD OF 'casketlaw6.AeadOpens'. -/
def aeadOpensCard : Claim7 := { stood := { row := aeadOpensRow, standIns := [], harness := (true, "17f872bc2ca8cd4b34f538015c08d37d44800b83b190b9ebf7eae58277ca2c56"), looks := false }, kinds := [], alts := [], laidByText := true, laidKinds := [.data, .data], laidTests := true, laidLooks := .later }
def AeadOpensCardSaid : Prop := Claim7.holds Tryd.pinned (.plain (OpenSpec.ofChange aeadOpensSpec)) aeadOpensCard

/-- THE TIED CARD OF 'casketlaw6.AeadBack'. -/
def aeadBackCard : Claim7 := { stood := { row := aeadBackRow, standIns := [], harness := (true, "17f872bc2ca8cd4b34f538015c08d37d44800b83b190b9ebf7eae58277ca2c56"), looks := false }, kinds := [], alts := [], laidByText := true, laidKinds := [.data], laidTests := true, laidLooks := .later }
def AeadBackCardSaid : Prop := Claim7.holds Tryd.pinned (.plain (OpenSpec.ofChange aeadBackSpec)) aeadBackCard

/-- THE TIED CARD OF 'casketlaw6.AeadOnly'. -/
def aeadOnlyCard : Claim7 := { stood := { row := aeadOnlyRow, standIns := [], harness := (true, "17f872bc2ca8cd4b34f538015c08d37d44800b83b190b9ebf7eae58277ca2c56"), looks := false }, kinds := [], alts := [], laidByText := true, laidKinds := [.data], laidTests := true, laidLooks := .later }
def AeadOnlyCardSaid : Prop := Claim7.holds Tryd.pinned (.plain (OpenSpec.ofChange aeadOnlySpec)) aeadOnlyCard

/-- THE TIED CARD OF 'casketlaw6.AeadLong'. -/
def aeadLongCard : Claim7 := { stood := { row := aeadLongRow, standIns := [], harness := (true, "17f872bc2ca8cd4b34f538015c08d37d44800b83b190b9ebf7eae58277ca2c56"), looks := false }, kinds := [], alts := [], laidByText := true, laidKinds := [.data], laidTests := true, laidLooks := .later }
def AeadLongCardSaid : Prop := Claim7.holds Tryd.pinned (.plain (OpenSpec.ofChange aeadLongSpec)) aeadLongCard

/-- THE TIED CARD OF 'casketlaw6.AeadKnown'. -/
def aeadKnownCard : Claim7 := { stood := { row := aeadKnownRow, standIns := [], harness := (true, "17f872bc2ca8cd4b34f538015c08d37d44800b83b190b9ebf7eae58277ca2c56"), looks := false }, kinds := [], alts := [], laidByText := true, laidKinds := [.data], laidTests := true, laidLooks := .later }
def AeadKnownCardSaid : Prop := Claim7.holds Tryd.pinned (.plain (OpenSpec.ofChange aeadKnownSpec)) aeadKnownCard

/-- THE SECOND FORM's CARD OF 'casketlaw4.ChachaHashes'. -/
def chachaHashesUptoCard : Claim7 := { stood := { row := chachaHashesUptoRow, standIns := [], harness := (true, "17f872bc2ca8cd4b34f538015c08d37d44800b83b190b9ebf7eae58277ca2c56"), looks := false }, kinds := [], alts := [], laidByText := true, laidKinds := [.data, .data], laidTests := true, laidLooks := .later }
def ChachaHashesUptoCardSaid : Prop := Claim7.holds Tryd.pinned (.plain (OpenSpec.upto chachaHashesSpec)) chachaHashesUptoCard

/-- THE SECOND FORM's CARD OF 'casketlaw4.ChachaBlocks'. -/
def chachaBlocksUptoCard : Claim7 := { stood := { row := chachaBlocksUptoRow, standIns := [], harness := (true, "17f872bc2ca8cd4b34f538015c08d37d44800b83b190b9ebf7eae58277ca2c56"), looks := false }, kinds := [], alts := [], laidByText := true, laidKinds := [.data, .data], laidTests := true, laidLooks := .later }
def ChachaBlocksUptoCardSaid : Prop := Claim7.holds Tryd.pinned (.plain (OpenSpec.upto chachaBlocksSpec)) chachaBlocksUptoCard

/-- THE SECOND FORM's CARD OF 'casketlaw4.ChachaXors'. -/
def chachaXorsUptoCard : Claim7 := { stood := { row := chachaXorsUptoRow, standIns := [], harness := (true, "17f872bc2ca8cd4b34f538015c08d37d44800b83b190b9ebf7eae58277ca2c56"), looks := false }, kinds := [], alts := [], laidByText := true, laidKinds := [.data, .data], laidTests := true, laidLooks := .later }
def ChachaXorsUptoCardSaid : Prop := Claim7.holds Tryd.pinned (.plain (OpenSpec.upto chachaXorsSpec)) chachaXorsUptoCard

/-- THE SECOND FORM's CARD OF 'casketlaw4.ChachaKnown'. -/
def chachaKnownUptoCard : Claim7 := { stood := { row := chachaKnownUptoRow, standIns := [], harness := (true, "17f872bc2ca8cd4b34f538015c08d37d44800b83b190b9ebf7eae58277ca2c56"), looks := false }, kinds := [], alts := [], laidByText := true, laidKinds := [.data], laidTests := true, laidLooks := .later }
def ChachaKnownUptoCardSaid : Prop := Claim7.holds Tryd.pinned (.plain (OpenSpec.upto chachaKnownSpec)) chachaKnownUptoCard

/-- THE SECOND FORM's CARD OF 'casketlaw4.ChachaLongs'. -/
def chachaLongsUptoCard : Claim7 := { stood := { row := chachaLongsUptoRow, standIns := [], harness := (true, "17f872bc2ca8cd4b34f538015c08d37d44800b83b190b9ebf7eae58277ca2c56"), looks := false }, kinds := [], alts := [], laidByText := true, laidKinds := [.data, .data], laidTests := true, laidLooks := .later }
def ChachaLongsUptoCardSaid : Prop := Claim7.holds Tryd.pinned (.plain (OpenSpec.upto chachaLongsSpec)) chachaLongsUptoCard

/-- THE SECOND FORM's CARD OF 'casketlaw4.ChachaStream'. -/
def chachaStreamUptoCard : Claim7 := { stood := { row := chachaStreamUptoRow, standIns := [], harness := (true, "17f872bc2ca8cd4b34f538015c08d37d44800b83b190b9ebf7eae58277ca2c56"), looks := false }, kinds := [], alts := [], laidByText := true, laidKinds := [.data], laidTests := true, laidLooks := .later }
def ChachaStreamUptoCardSaid : Prop := Claim7.holds Tryd.pinned (.plain (OpenSpec.upto chachaStreamSpec)) chachaStreamUptoCard

/-- THE SECOND FORM's CARD OF 'casketlaw4.ChachaEnds'. -/
def chachaEndsUptoCard : Claim7 := { stood := { row := chachaEndsUptoRow, standIns := [], harness := (true, "17f872bc2ca8cd4b34f538015c08d37d44800b83b190b9ebf7eae58277ca2c56"), looks := false }, kinds := [], alts := [], laidByText := true, laidKinds := [.data], laidTests := true, laidLooks := .later }
def ChachaEndsUptoCardSaid : Prop := Claim7.holds Tryd.pinned (.plain (OpenSpec.upto chachaEndsSpec)) chachaEndsUptoCard

/-- THE SECOND FORM's CARD OF 'casketlaw4.ChachaBack'. -/
def chachaBackUptoCard : Claim7 := { stood := { row := chachaBackUptoRow, standIns := [], harness := (true, "17f872bc2ca8cd4b34f538015c08d37d44800b83b190b9ebf7eae58277ca2c56"), looks := false }, kinds := [], alts := [], laidByText := true, laidKinds := [.data], laidTests := true, laidLooks := .later }
def ChachaBackUptoCardSaid : Prop := Claim7.holds Tryd.pinned (.plain (OpenSpec.upto chachaBackSpec)) chachaBackUptoCard

/-- THE SECOND FORM's CARD OF 'casketlaw4.ChachaLongIsShort'. -/
def chachaLongIsShortUptoCard : Claim7 := { stood := { row := chachaLongIsShortUptoRow, standIns := [], harness := (true, "17f872bc2ca8cd4b34f538015c08d37d44800b83b190b9ebf7eae58277ca2c56"), looks := false }, kinds := [], alts := [], laidByText := true, laidKinds := [.data], laidTests := true, laidLooks := .later }
def ChachaLongIsShortUptoCardSaid : Prop := Claim7.holds Tryd.pinned (.plain (OpenSpec.upto chachaLongIsShortSpec)) chachaLongIsShortUptoCard

/-- THE SECOND FORM's CARD OF 'casketlaw6.AeadSeals'. -/
def aeadSealsUptoCard : Claim7 := { stood := { row := aeadSealsUptoRow, standIns := [], harness := (true, "17f872bc2ca8cd4b34f538015c08d37d44800b83b190b9ebf7eae58277ca2c56"), looks := false }, kinds := [], alts := [], laidByText := true, laidKinds := [.data, .data], laidTests := true, laidLooks := .later }
def AeadSealsUptoCardSaid : Prop := Claim7.holds Tryd.pinned (.plain (OpenSpec.upto aeadSealsSpec)) aeadSealsUptoCard

/-- THE SECOND FORM's CARD OF 'casketlaw6.AeadBuilt'. -/
def aeadBuiltUptoCard : Claim7 := { stood := { row := aeadBuiltUptoRow, standIns := [], harness := (true, "17f872bc2ca8cd4b34f538015c08d37d44800b83b190b9ebf7eae58277ca2c56"), looks := false }, kinds := [], alts := [], laidByText := true, laidKinds := [.data], laidTests := true, laidLooks := .later }
def AeadBuiltUptoCardSaid : Prop := Claim7.holds Tryd.pinned (.plain (OpenSpec.upto aeadBuiltSpec)) aeadBuiltUptoCard

/-- THE SECOND FORM's CARD OF 'casketlaw6.AeadOpens'. -/
def aeadOpensUptoCard : Claim7 := { stood := { row := aeadOpensUptoRow, standIns := [], harness := (true, "17f872bc2ca8cd4b34f538015c08d37d44800b83b190b9ebf7eae58277ca2c56"), looks := false }, kinds := [], alts := [], laidByText := true, laidKinds := [.data, .data], laidTests := true, laidLooks := .later }
def AeadOpensUptoCardSaid : Prop := Claim7.holds Tryd.pinned (.plain (OpenSpec.upto aeadOpensSpec)) aeadOpensUptoCard

/-- THE SECOND FORM's CARD OF 'casketlaw6.AeadBack'. -/
def aeadBackUptoCard : Claim7 := { stood := { row := aeadBackUptoRow, standIns := [], harness := (true, "17f872bc2ca8cd4b34f538015c08d37d44800b83b190b9ebf7eae58277ca2c56"), looks := false }, kinds := [], alts := [], laidByText := true, laidKinds := [.data], laidTests := true, laidLooks := .later }
def AeadBackUptoCardSaid : Prop := Claim7.holds Tryd.pinned (.plain (OpenSpec.upto aeadBackSpec)) aeadBackUptoCard

/-- THE SECOND FORM's CARD OF 'casketlaw6.AeadOnly'. -/
def aeadOnlyUptoCard : Claim7 := { stood := { row := aeadOnlyUptoRow, standIns := [], harness := (true, "17f872bc2ca8cd4b34f538015c08d37d44800b83b190b9ebf7eae58277ca2c56"), looks := false }, kinds := [], alts := [], laidByText := true, laidKinds := [.data], laidTests := true, laidLooks := .later }
def AeadOnlyUptoCardSaid : Prop := Claim7.holds Tryd.pinned (.plain (OpenSpec.upto aeadOnlySpec)) aeadOnlyUptoCard

/-- THE SECOND FORM's CARD OF 'casketlaw6.AeadLong'. -/
def aeadLongUptoCard : Claim7 := { stood := { row := aeadLongUptoRow, standIns := [], harness := (true, "17f872bc2ca8cd4b34f538015c08d37d44800b83b190b9ebf7eae58277ca2c56"), looks := false }, kinds := [], alts := [], laidByText := true, laidKinds := [.data], laidTests := true, laidLooks := .later }
def AeadLongUptoCardSaid : Prop := Claim7.holds Tryd.pinned (.plain (OpenSpec.upto aeadLongSpec)) aeadLongUptoCard

/-- THE SECOND FORM's CARD OF 'casketlaw6.AeadKnown'. -/
def aeadKnownUptoCard : Claim7 := { stood := { row := aeadKnownUptoRow, standIns := [], harness := (true, "17f872bc2ca8cd4b34f538015c08d37d44800b83b190b9ebf7eae58277ca2c56"), looks := false }, kinds := [], alts := [], laidByText := true, laidKinds := [.data], laidTests := true, laidLooks := .later }
def AeadKnownUptoCardSaid : Prop := Claim7.holds Tryd.pinned (.plain (OpenSpec.upto aeadKnownSpec)) aeadKnownUptoCard
end Rows
end Go.Proofs.YtmgfhamfbdaeiaaDoor
