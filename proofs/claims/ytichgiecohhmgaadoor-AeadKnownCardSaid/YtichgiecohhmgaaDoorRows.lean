/-
  NARROWER THAN 'FOR EVERY INPUT', by the rows' own cells (each row's printed sentence says how): AeadSeals: laid · AeadBuilt: laid · AeadOpens: laid · AeadBack: laid · AeadOnly: laid · AeadLong: laid · AeadKnown: laid.
  DERIVED. THE GIVEN ROWS OF THIS SEAT. 7 by the template 'for every input the law returns true; each argument reads behind the call as it read before'; 0 by the template 'total and deterministic' (their statements: YtichgiecohhmgaaDoorTotals.lean).
  GIVEN WITH THE SEED: the statements are not yours to turn. If you find one false, say at which input.
  Laid BY PROGRAM, IN A SANDBOX (cutbox-rows.mjs): the forced cells as the released guide's own fill.sh prints them over the translation b797d94af7dd8456… (all of the seat's roots in one cut). By AI agents, Wed Nov 11 2026. No macro, syntax, notation, axiom, sorry.
-/
import Derived.Test.YtichgiecohhmgaaDoorChecked
import GoSem.Claim
import GoSem.ClaimJoined
import GoSem.ClaimMapViews
import Derived.JoinedTies
import Derived.KernelRfl
namespace Go.Proofs.YtichgiecohhmgaaDoor
/- THE CELL 'sum', in the pinned program and in every row, IS THE sha256 OF THE DUMP (.gsa) THAT YtichgiecohhmgaaDoorProg.lean LOADS. Nothing in Lean hashes anything: it is a label: what it is worth is what the hold of that sum in a sandbox is worth. -/
noncomputable def Tryd.pinned : Pinned := { name := "ytichgiecohhmgaadoor", sum := "b797d94af7dd845658f80f336fb5a8ded101f72b51dc45716f9b9bc42c186aa9", checked := Tryd.checked }
namespace Rows
def none {H : Type} : Left H := { results := [], args := [] }

/- WHAT THE LISTED PACKAGE-LEVEL VARIABLES READ AS WHEN THE CALL BEGINS. Each datum BY PROGRAM (the guide's laid-datum.mjs) off the statement by which the dump's own 'gosem.cut.vars' lays the variable. In a bare row this is a premise. The card (YtichgiecohhmgaaDoorCards.lean) ties it to the program's text. -/
def laid_casket_casketref4_places {H : Type} : DataW H := .agg [.lit (.int .i64 0), .lit (.int .i64 4), .lit (.int .i64 8), .lit (.int .i64 12), .lit (.int .i64 1), .lit (.int .i64 5), .lit (.int .i64 9), .lit (.int .i64 13), .lit (.int .i64 2), .lit (.int .i64 6), .lit (.int .i64 10), .lit (.int .i64 14), .lit (.int .i64 3), .lit (.int .i64 7), .lit (.int .i64 11), .lit (.int .i64 15), .lit (.int .i64 0), .lit (.int .i64 5), .lit (.int .i64 10), .lit (.int .i64 15), .lit (.int .i64 1), .lit (.int .i64 6), .lit (.int .i64 11), .lit (.int .i64 12), .lit (.int .i64 2), .lit (.int .i64 7), .lit (.int .i64 8), .lit (.int .i64 13), .lit (.int .i64 3), .lit (.int .i64 4), .lit (.int .i64 9), .lit (.int .i64 14)]
def laid_casket_chacha_rounds {H : Type} : DataW H := .agg [.agg [.lit (.int .i64 0), .lit (.int .i64 4), .lit (.int .i64 8), .lit (.int .i64 12)], .agg [.lit (.int .i64 1), .lit (.int .i64 5), .lit (.int .i64 9), .lit (.int .i64 13)], .agg [.lit (.int .i64 2), .lit (.int .i64 6), .lit (.int .i64 10), .lit (.int .i64 14)], .agg [.lit (.int .i64 3), .lit (.int .i64 7), .lit (.int .i64 11), .lit (.int .i64 15)], .agg [.lit (.int .i64 0), .lit (.int .i64 5), .lit (.int .i64 10), .lit (.int .i64 15)], .agg [.lit (.int .i64 1), .lit (.int .i64 6), .lit (.int .i64 11), .lit (.int .i64 12)], .agg [.lit (.int .i64 2), .lit (.int .i64 7), .lit (.int .i64 8), .lit (.int .i64 13)], .agg [.lit (.int .i64 3), .lit (.int .i64 4), .lit (.int .i64 9), .lit (.int .i64 14)]]

/-- 'casketlaw6.AeadSeals': WHATEVER THE INPUT: true; the input reads as it did. -/
def aeadSealsSpec : ChangeSpec := { name := "aeadSeals", fn := fun _ => fun
  | [d1, d2, d3, d4] => { results := [.lit (.bool true)], args := [d1, d2, d3, d4] }
  | _ => none }
def aeadSealsRow : OpenClaim := { program := "ytichgiecohhmgaadoor", sum := "b797d94af7dd845658f80f336fb5a8ded101f72b51dc45716f9b9bc42c186aa9", func := "casket/casketlaw6.AeadSeals", spec := "aeadSeals", inPlace := ["internal/abi.NoEscape", "internal/bytealg.MakeNoZero"], unfollowed := true, recurses := true, named := ["casket/chacha.rounds", "casket/casketref4.places"], apart := false, laid := [("casket/casketref4.places", laid_casket_casketref4_places), ("casket/chacha.rounds", laid_casket_chacha_rounds)] }
def AeadSealsSaid : Prop := aeadSealsRow.holds Tryd.pinned (OpenSpec.ofChange aeadSealsSpec)

/-- ITS FALSE NEIGHBOUR: 'it returns false'. Refute it at one input. -/
def aeadSealsWrong : ChangeSpec := { name := "aeadSeals", fn := fun _ => fun
  | [d1, d2, d3, d4] => { results := [.lit (.bool false)], args := [d1, d2, d3, d4] }
  | _ => none }
def AeadSealsWrongFalsely : Prop := aeadSealsRow.holds Tryd.pinned (OpenSpec.ofChange aeadSealsWrong)

/-- 'casketlaw6.AeadBuilt': WHATEVER THE INPUT: true; the input reads as it did. -/
def aeadBuiltSpec : ChangeSpec := { name := "aeadBuilt", fn := fun _ => fun
  | [d1, d2, d3, d4] => { results := [.lit (.bool true)], args := [d1, d2, d3, d4] }
  | _ => none }
def aeadBuiltRow : OpenClaim := { program := "ytichgiecohhmgaadoor", sum := "b797d94af7dd845658f80f336fb5a8ded101f72b51dc45716f9b9bc42c186aa9", func := "casket/casketlaw6.AeadBuilt", spec := "aeadBuilt", inPlace := ["internal/abi.NoEscape", "internal/bytealg.MakeNoZero"], unfollowed := true, recurses := true, named := ["casket/chacha.rounds"], apart := false, laid := [("casket/chacha.rounds", laid_casket_chacha_rounds)] }
def AeadBuiltSaid : Prop := aeadBuiltRow.holds Tryd.pinned (OpenSpec.ofChange aeadBuiltSpec)

/-- ITS FALSE NEIGHBOUR: 'it returns false'. Refute it at one input. -/
def aeadBuiltWrong : ChangeSpec := { name := "aeadBuilt", fn := fun _ => fun
  | [d1, d2, d3, d4] => { results := [.lit (.bool false)], args := [d1, d2, d3, d4] }
  | _ => none }
def AeadBuiltWrongFalsely : Prop := aeadBuiltRow.holds Tryd.pinned (OpenSpec.ofChange aeadBuiltWrong)

/-- 'casketlaw6.AeadOpens': WHATEVER THE INPUT: true; the input reads as it did. -/
def aeadOpensSpec : ChangeSpec := { name := "aeadOpens", fn := fun _ => fun
  | [d1, d2, d3, d4, d5, d6] => { results := [.lit (.bool true)], args := [d1, d2, d3, d4, d5, d6] }
  | _ => none }
def aeadOpensRow : OpenClaim := { program := "ytichgiecohhmgaadoor", sum := "b797d94af7dd845658f80f336fb5a8ded101f72b51dc45716f9b9bc42c186aa9", func := "casket/casketlaw6.AeadOpens", spec := "aeadOpens", inPlace := ["internal/abi.NoEscape", "internal/bytealg.MakeNoZero"], unfollowed := true, recurses := true, named := ["casket/chacha.rounds", "casket/casketref4.places"], apart := false, laid := [("casket/casketref4.places", laid_casket_casketref4_places), ("casket/chacha.rounds", laid_casket_chacha_rounds)] }
def AeadOpensSaid : Prop := aeadOpensRow.holds Tryd.pinned (OpenSpec.ofChange aeadOpensSpec)

/-- ITS FALSE NEIGHBOUR: 'it returns false'. Refute it at one input. -/
def aeadOpensWrong : ChangeSpec := { name := "aeadOpens", fn := fun _ => fun
  | [d1, d2, d3, d4, d5, d6] => { results := [.lit (.bool false)], args := [d1, d2, d3, d4, d5, d6] }
  | _ => none }
def AeadOpensWrongFalsely : Prop := aeadOpensRow.holds Tryd.pinned (OpenSpec.ofChange aeadOpensWrong)

/-- 'casketlaw6.AeadBack': WHATEVER THE INPUT: true; the input reads as it did. -/
def aeadBackSpec : ChangeSpec := { name := "aeadBack", fn := fun _ => fun
  | [d1, d2, d3, d4, d5, d6] => { results := [.lit (.bool true)], args := [d1, d2, d3, d4, d5, d6] }
  | _ => none }
def aeadBackRow : OpenClaim := { program := "ytichgiecohhmgaadoor", sum := "b797d94af7dd845658f80f336fb5a8ded101f72b51dc45716f9b9bc42c186aa9", func := "casket/casketlaw6.AeadBack", spec := "aeadBack", inPlace := ["internal/abi.NoEscape", "internal/bytealg.MakeNoZero"], unfollowed := true, recurses := true, named := ["casket/chacha.rounds"], apart := false, laid := [("casket/chacha.rounds", laid_casket_chacha_rounds)] }
def AeadBackSaid : Prop := aeadBackRow.holds Tryd.pinned (OpenSpec.ofChange aeadBackSpec)

/-- ITS FALSE NEIGHBOUR: 'it returns false'. Refute it at one input. -/
def aeadBackWrong : ChangeSpec := { name := "aeadBack", fn := fun _ => fun
  | [d1, d2, d3, d4, d5, d6] => { results := [.lit (.bool false)], args := [d1, d2, d3, d4, d5, d6] }
  | _ => none }
def AeadBackWrongFalsely : Prop := aeadBackRow.holds Tryd.pinned (OpenSpec.ofChange aeadBackWrong)

/-- 'casketlaw6.AeadOnly': WHATEVER THE INPUT: true; the input reads as it did. -/
def aeadOnlySpec : ChangeSpec := { name := "aeadOnly", fn := fun _ => fun
  | [d1, d2, d3, d4, d5, d6] => { results := [.lit (.bool true)], args := [d1, d2, d3, d4, d5, d6] }
  | _ => none }
def aeadOnlyRow : OpenClaim := { program := "ytichgiecohhmgaadoor", sum := "b797d94af7dd845658f80f336fb5a8ded101f72b51dc45716f9b9bc42c186aa9", func := "casket/casketlaw6.AeadOnly", spec := "aeadOnly", inPlace := ["internal/abi.NoEscape", "internal/bytealg.MakeNoZero"], unfollowed := true, recurses := true, named := ["casket/chacha.rounds"], apart := false, laid := [("casket/chacha.rounds", laid_casket_chacha_rounds)] }
def AeadOnlySaid : Prop := aeadOnlyRow.holds Tryd.pinned (OpenSpec.ofChange aeadOnlySpec)

/-- ITS FALSE NEIGHBOUR: 'it returns false'. Refute it at one input. -/
def aeadOnlyWrong : ChangeSpec := { name := "aeadOnly", fn := fun _ => fun
  | [d1, d2, d3, d4, d5, d6] => { results := [.lit (.bool false)], args := [d1, d2, d3, d4, d5, d6] }
  | _ => none }
def AeadOnlyWrongFalsely : Prop := aeadOnlyRow.holds Tryd.pinned (OpenSpec.ofChange aeadOnlyWrong)

/-- 'casketlaw6.AeadLong': WHATEVER THE INPUT: true; the input reads as it did. -/
def aeadLongSpec : ChangeSpec := { name := "aeadLong", fn := fun _ => fun
  | [d1, d2, d3, d4] => { results := [.lit (.bool true)], args := [d1, d2, d3, d4] }
  | _ => none }
def aeadLongRow : OpenClaim := { program := "ytichgiecohhmgaadoor", sum := "b797d94af7dd845658f80f336fb5a8ded101f72b51dc45716f9b9bc42c186aa9", func := "casket/casketlaw6.AeadLong", spec := "aeadLong", inPlace := ["internal/abi.NoEscape", "internal/bytealg.MakeNoZero"], unfollowed := true, recurses := true, named := ["casket/chacha.rounds"], apart := false, laid := [("casket/chacha.rounds", laid_casket_chacha_rounds)] }
def AeadLongSaid : Prop := aeadLongRow.holds Tryd.pinned (OpenSpec.ofChange aeadLongSpec)

/-- ITS FALSE NEIGHBOUR: 'it returns false'. Refute it at one input. -/
def aeadLongWrong : ChangeSpec := { name := "aeadLong", fn := fun _ => fun
  | [d1, d2, d3, d4] => { results := [.lit (.bool false)], args := [d1, d2, d3, d4] }
  | _ => none }
def AeadLongWrongFalsely : Prop := aeadLongRow.holds Tryd.pinned (OpenSpec.ofChange aeadLongWrong)

/-- 'casketlaw6.AeadKnown': WHATEVER THE INPUT: true; the input reads as it did. -/
def aeadKnownSpec : ChangeSpec := { name := "aeadKnown", fn := fun _ => fun
  | [] => { results := [.lit (.bool true)], args := [] }
  | _ => none }
def aeadKnownRow : OpenClaim := { program := "ytichgiecohhmgaadoor", sum := "b797d94af7dd845658f80f336fb5a8ded101f72b51dc45716f9b9bc42c186aa9", func := "casket/casketlaw6.AeadKnown", spec := "aeadKnown", inPlace := ["internal/abi.NoEscape", "internal/bytealg.MakeNoZero"], unfollowed := true, recurses := true, named := ["casket/chacha.rounds"], apart := false, laid := [("casket/chacha.rounds", laid_casket_chacha_rounds)] }
def AeadKnownSaid : Prop := aeadKnownRow.holds Tryd.pinned (OpenSpec.ofChange aeadKnownSpec)

/-- ITS FALSE NEIGHBOUR: 'it returns false'. Refute it at one input. -/
def aeadKnownWrong : ChangeSpec := { name := "aeadKnown", fn := fun _ => fun
  | [] => { results := [.lit (.bool false)], args := [] }
  | _ => none }
def AeadKnownWrongFalsely : Prop := aeadKnownRow.holds Tryd.pinned (OpenSpec.ofChange aeadKnownWrong)

/- THE SECOND FORM. 'bulk': how many values and letters a reading holds, each counted each time it is reached (what is shared counts as often as it is met; a slice's spare places count too). A statement '..UptoSaid' is the law's where the arguments, and the package variables that the reading takes, are together of bulk at most 1048576: NARROWER than '..Said'. Prove '..Said' where nothing that the law and all that it calls make is longer than what came in: it says more and counts as full. Else prove '..UptoSaid'. A law counts once. -/
mutual
def uptoBulk {H : Type} : DataW H → Nat
  | .lit (.string bytes) => bytes.length + 1
  | .lit _ => 1
  | .nil => 1
  | .ptr d => uptoBulk d + 1
  | .slice elems spare => uptoBulkAll elems + uptoBulkAll spare + 1
  | .agg parts => uptoBulkAll parts + 1
  | .iface _ d => uptoBulk d + 1
  | .map entries => uptoBulkEntries entries + 1
  | .held _ => 1
def uptoBulkAll {H : Type} : List (DataW H) → Nat
  | [] => 0
  | d :: r => uptoBulk d + uptoBulkAll r
def uptoBulkEntries {H : Type} : List (Lit × DataW H) → Nat
  | [] => 0
  | x :: r => uptoBulkEntry x + uptoBulkEntries r
def uptoBulkEntry {H : Type} : Lit × DataW H → Nat
  | (.string bytes, d) => bytes.length + uptoBulk d + 1
  | (_, d) => uptoBulk d + 1
 end
def uptoSmall : (H : Type) → List (DataW H) → Bool := fun _ ds => decide (uptoBulkAll ds ≤ 1048576)
def OpenSpec.upto (s : _root_.Go.ChangeSpec) : _root_.Go.OpenSpec := { _root_.Go.OpenSpec.ofChange s with cond := some uptoSmall }

/-- 'casketlaw6.AeadSeals', WHERE WHAT IT READS IS OF BULK AT MOST 1048576: true; the input reads as it did. -/
def aeadSealsUptoRow : OpenClaim := { program := "ytichgiecohhmgaadoor", sum := "b797d94af7dd845658f80f336fb5a8ded101f72b51dc45716f9b9bc42c186aa9", func := "casket/casketlaw6.AeadSeals", spec := "aeadSeals", inPlace := ["internal/abi.NoEscape", "internal/bytealg.MakeNoZero"], unfollowed := true, recurses := true, named := ["casket/chacha.rounds", "casket/casketref4.places"], apart := false, laid := [("casket/casketref4.places", laid_casket_casketref4_places), ("casket/chacha.rounds", laid_casket_chacha_rounds)], narrowed := true }
def AeadSealsUptoSaid : Prop := aeadSealsUptoRow.holds Tryd.pinned (OpenSpec.upto aeadSealsSpec)

/-- 'casketlaw6.AeadBuilt', WHERE WHAT IT READS IS OF BULK AT MOST 1048576: true; the input reads as it did. -/
def aeadBuiltUptoRow : OpenClaim := { program := "ytichgiecohhmgaadoor", sum := "b797d94af7dd845658f80f336fb5a8ded101f72b51dc45716f9b9bc42c186aa9", func := "casket/casketlaw6.AeadBuilt", spec := "aeadBuilt", inPlace := ["internal/abi.NoEscape", "internal/bytealg.MakeNoZero"], unfollowed := true, recurses := true, named := ["casket/chacha.rounds"], apart := false, laid := [("casket/chacha.rounds", laid_casket_chacha_rounds)], narrowed := true }
def AeadBuiltUptoSaid : Prop := aeadBuiltUptoRow.holds Tryd.pinned (OpenSpec.upto aeadBuiltSpec)

/-- 'casketlaw6.AeadOpens', WHERE WHAT IT READS IS OF BULK AT MOST 1048576: true; the input reads as it did. -/
def aeadOpensUptoRow : OpenClaim := { program := "ytichgiecohhmgaadoor", sum := "b797d94af7dd845658f80f336fb5a8ded101f72b51dc45716f9b9bc42c186aa9", func := "casket/casketlaw6.AeadOpens", spec := "aeadOpens", inPlace := ["internal/abi.NoEscape", "internal/bytealg.MakeNoZero"], unfollowed := true, recurses := true, named := ["casket/chacha.rounds", "casket/casketref4.places"], apart := false, laid := [("casket/casketref4.places", laid_casket_casketref4_places), ("casket/chacha.rounds", laid_casket_chacha_rounds)], narrowed := true }
def AeadOpensUptoSaid : Prop := aeadOpensUptoRow.holds Tryd.pinned (OpenSpec.upto aeadOpensSpec)

/-- 'casketlaw6.AeadBack', WHERE WHAT IT READS IS OF BULK AT MOST 1048576: true; the input reads as it did. -/
def aeadBackUptoRow : OpenClaim := { program := "ytichgiecohhmgaadoor", sum := "b797d94af7dd845658f80f336fb5a8ded101f72b51dc45716f9b9bc42c186aa9", func := "casket/casketlaw6.AeadBack", spec := "aeadBack", inPlace := ["internal/abi.NoEscape", "internal/bytealg.MakeNoZero"], unfollowed := true, recurses := true, named := ["casket/chacha.rounds"], apart := false, laid := [("casket/chacha.rounds", laid_casket_chacha_rounds)], narrowed := true }
def AeadBackUptoSaid : Prop := aeadBackUptoRow.holds Tryd.pinned (OpenSpec.upto aeadBackSpec)

/-- 'casketlaw6.AeadOnly', WHERE WHAT IT READS IS OF BULK AT MOST 1048576: true; the input reads as it did. -/
def aeadOnlyUptoRow : OpenClaim := { program := "ytichgiecohhmgaadoor", sum := "b797d94af7dd845658f80f336fb5a8ded101f72b51dc45716f9b9bc42c186aa9", func := "casket/casketlaw6.AeadOnly", spec := "aeadOnly", inPlace := ["internal/abi.NoEscape", "internal/bytealg.MakeNoZero"], unfollowed := true, recurses := true, named := ["casket/chacha.rounds"], apart := false, laid := [("casket/chacha.rounds", laid_casket_chacha_rounds)], narrowed := true }
def AeadOnlyUptoSaid : Prop := aeadOnlyUptoRow.holds Tryd.pinned (OpenSpec.upto aeadOnlySpec)

/-- 'casketlaw6.AeadLong', WHERE WHAT IT READS IS OF BULK AT MOST 1048576: true; the input reads as it did. -/
def aeadLongUptoRow : OpenClaim := { program := "ytichgiecohhmgaadoor", sum := "b797d94af7dd845658f80f336fb5a8ded101f72b51dc45716f9b9bc42c186aa9", func := "casket/casketlaw6.AeadLong", spec := "aeadLong", inPlace := ["internal/abi.NoEscape", "internal/bytealg.MakeNoZero"], unfollowed := true, recurses := true, named := ["casket/chacha.rounds"], apart := false, laid := [("casket/chacha.rounds", laid_casket_chacha_rounds)], narrowed := true }
def AeadLongUptoSaid : Prop := aeadLongUptoRow.holds Tryd.pinned (OpenSpec.upto aeadLongSpec)

/-- 'casketlaw6.AeadKnown', WHERE WHAT IT READS IS OF BULK AT MOST 1048576: true; the input reads as it did. -/
def aeadKnownUptoRow : OpenClaim := { program := "ytichgiecohhmgaadoor", sum := "b797d94af7dd845658f80f336fb5a8ded101f72b51dc45716f9b9bc42c186aa9", func := "casket/casketlaw6.AeadKnown", spec := "aeadKnown", inPlace := ["internal/abi.NoEscape", "internal/bytealg.MakeNoZero"], unfollowed := true, recurses := true, named := ["casket/chacha.rounds"], apart := false, laid := [("casket/chacha.rounds", laid_casket_chacha_rounds)], narrowed := true }
def AeadKnownUptoSaid : Prop := aeadKnownUptoRow.holds Tryd.pinned (OpenSpec.upto aeadKnownSpec)

end Rows
end Go.Proofs.YtichgiecohhmgaaDoor
