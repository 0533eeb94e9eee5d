/-
  No cell of these rows narrows 'for every input' (looked for: loops, veiled, ifaces, maps, wideKeys, modest, calm, conditions, laid).
  DERIVED. THE GIVEN ROWS OF THIS SEAT. 5 by the template 'for every input the law returns true; each argument reads behind the call as it read before'; 0 by the template 'total and deterministic' (their statements: YtchoppeoaehgnaaTotals.lean).
  GIVEN WITH THE SEED: the statements are not yours to turn. If you find one false, say at which input.
  Laid BY PROGRAM, IN A SANDBOX (cutbox-rows.mjs): the forced cells as the released guide's own fill.sh prints them over the translation 92b0fad36d1b8813… (all of the seat's roots in one cut). By AI agents, Wed Nov 11 2026. No macro, syntax, notation, axiom, sorry.
-/
import Derived.Test.YtchoppeoaehgnaaChecked
import GoSem.Claim
import GoSem.ClaimJoined
import GoSem.ClaimMapViews
import Derived.JoinedTies
import Derived.KernelRfl
namespace Go.Proofs.Ytchoppeoaehgnaa
/- THE CELL 'sum', in the pinned program and in every row, IS THE sha256 OF THE DUMP (.gsa) THAT YtchoppeoaehgnaaProg.lean LOADS. Nothing in Lean hashes anything: it is a label: what it is worth is what the hold of that sum in a sandbox is worth. -/
noncomputable def Try.pinned : Pinned := { name := "ytchoppeoaehgnaa", sum := "92b0fad36d1b881338292d86e20969cddf5dfb7d07dfd2074b7312a2659b32cc", checked := Try.checked }
namespace Rows
def none {H : Type} : Left H := { results := [], args := [] }

/-- 'casketlaw1.TapeNew': WHATEVER THE INPUT: true; the input reads as it did. -/
def tapeNewSpec : ChangeSpec := { name := "tapeNew", fn := fun _ => fun
  | [d] => { results := [.lit (.bool true)], args := [d] }
  | _ => none }
def tapeNewRow : OpenClaim := { program := "ytchoppeoaehgnaa", sum := "92b0fad36d1b881338292d86e20969cddf5dfb7d07dfd2074b7312a2659b32cc", func := "casket/casketlaw1.TapeNew", spec := "tapeNew", apart := false }
def TapeNewSaid : Prop := tapeNewRow.holds Try.pinned (OpenSpec.ofChange tapeNewSpec)

/-- ITS FALSE NEIGHBOUR: 'it returns false'. Refute it at one input. -/
def tapeNewWrong : ChangeSpec := { name := "tapeNew", fn := fun _ => fun
  | [d] => { results := [.lit (.bool false)], args := [d] }
  | _ => none }
def TapeNewWrongFalsely : Prop := tapeNewRow.holds Try.pinned (OpenSpec.ofChange tapeNewWrong)

/-- 'casketlaw1.TapeDraws': WHATEVER THE INPUT: true; the input reads as it did. -/
def tapeDrawsSpec : ChangeSpec := { name := "tapeDraws", fn := fun _ => fun
  | [d1, d2, d3] => { results := [.lit (.bool true)], args := [d1, d2, d3] }
  | _ => none }
def tapeDrawsRow : OpenClaim := { program := "ytchoppeoaehgnaa", sum := "92b0fad36d1b881338292d86e20969cddf5dfb7d07dfd2074b7312a2659b32cc", func := "casket/casketlaw1.TapeDraws", spec := "tapeDraws", apart := false }
def TapeDrawsSaid : Prop := tapeDrawsRow.holds Try.pinned (OpenSpec.ofChange tapeDrawsSpec)

/-- ITS FALSE NEIGHBOUR: 'it returns false'. Refute it at one input. -/
def tapeDrawsWrong : ChangeSpec := { name := "tapeDraws", fn := fun _ => fun
  | [d1, d2, d3] => { results := [.lit (.bool false)], args := [d1, d2, d3] }
  | _ => none }
def TapeDrawsWrongFalsely : Prop := tapeDrawsRow.holds Try.pinned (OpenSpec.ofChange tapeDrawsWrong)

/-- 'casketlaw1.TapeInOrder': WHATEVER THE INPUT: true; the input reads as it did. -/
def tapeInOrderSpec : ChangeSpec := { name := "tapeInOrder", fn := fun _ => fun
  | [d1, d2] => { results := [.lit (.bool true)], args := [d1, d2] }
  | _ => none }
def tapeInOrderRow : OpenClaim := { program := "ytchoppeoaehgnaa", sum := "92b0fad36d1b881338292d86e20969cddf5dfb7d07dfd2074b7312a2659b32cc", func := "casket/casketlaw1.TapeInOrder", spec := "tapeInOrder", apart := false }
def TapeInOrderSaid : Prop := tapeInOrderRow.holds Try.pinned (OpenSpec.ofChange tapeInOrderSpec)

/-- ITS FALSE NEIGHBOUR: 'it returns false'. Refute it at one input. -/
def tapeInOrderWrong : ChangeSpec := { name := "tapeInOrder", fn := fun _ => fun
  | [d1, d2] => { results := [.lit (.bool false)], args := [d1, d2] }
  | _ => none }
def TapeInOrderWrongFalsely : Prop := tapeInOrderRow.holds Try.pinned (OpenSpec.ofChange tapeInOrderWrong)

/-- 'casketlaw1.TapeSplit': WHATEVER THE INPUT: true; the input reads as it did. -/
def tapeSplitSpec : ChangeSpec := { name := "tapeSplit", fn := fun _ => fun
  | [d1, d2, d3] => { results := [.lit (.bool true)], args := [d1, d2, d3] }
  | _ => none }
def tapeSplitRow : OpenClaim := { program := "ytchoppeoaehgnaa", sum := "92b0fad36d1b881338292d86e20969cddf5dfb7d07dfd2074b7312a2659b32cc", func := "casket/casketlaw1.TapeSplit", spec := "tapeSplit", apart := false }
def TapeSplitSaid : Prop := tapeSplitRow.holds Try.pinned (OpenSpec.ofChange tapeSplitSpec)

/-- ITS FALSE NEIGHBOUR: 'it returns false'. Refute it at one input. -/
def tapeSplitWrong : ChangeSpec := { name := "tapeSplit", fn := fun _ => fun
  | [d1, d2, d3] => { results := [.lit (.bool false)], args := [d1, d2, d3] }
  | _ => none }
def TapeSplitWrongFalsely : Prop := tapeSplitRow.holds Try.pinned (OpenSpec.ofChange tapeSplitWrong)

/-- 'casketlaw1.TapeApart': WHATEVER THE INPUT: true; the input reads as it did. -/
def tapeApartSpec : ChangeSpec := { name := "tapeApart", fn := fun _ => fun
  | [d1, d2] => { results := [.lit (.bool true)], args := [d1, d2] }
  | _ => none }
def tapeApartRow : OpenClaim := { program := "ytchoppeoaehgnaa", sum := "92b0fad36d1b881338292d86e20969cddf5dfb7d07dfd2074b7312a2659b32cc", func := "casket/casketlaw1.TapeApart", spec := "tapeApart", apart := false }
def TapeApartSaid : Prop := tapeApartRow.holds Try.pinned (OpenSpec.ofChange tapeApartSpec)

/-- ITS FALSE NEIGHBOUR: 'it returns false'. Refute it at one input. -/
def tapeApartWrong : ChangeSpec := { name := "tapeApart", fn := fun _ => fun
  | [d1, d2] => { results := [.lit (.bool false)], args := [d1, d2] }
  | _ => none }
def TapeApartWrongFalsely : Prop := tapeApartRow.holds Try.pinned (OpenSpec.ofChange tapeApartWrong)

/- THE SECOND FORM. 'bulk': how many values and letters a reading holds, each counted each time it is reached (what is shared counts as often as it is met; a slice's spare places count too). A statement '..UptoSaid' is the law's where the arguments, and the package variables that the reading takes, are together of bulk at most 1048576: NARROWER than '..Said'. Prove '..Said' where nothing that the law and all that it calls make is longer than what came in: it says more and counts as full. Else prove '..UptoSaid'. A law counts once. -/
mutual
def uptoBulk {H : Type} : DataW H → Nat
  | .lit (.string bytes) => bytes.length + 1
  | .lit _ => 1
  | .nil => 1
  | .ptr d => uptoBulk d + 1
  | .slice elems spare => uptoBulkAll elems + uptoBulkAll spare + 1
  | .agg parts => uptoBulkAll parts + 1
  | .iface _ d => uptoBulk d + 1
  | .map entries => uptoBulkEntries entries + 1
  | .held _ => 1
def uptoBulkAll {H : Type} : List (DataW H) → Nat
  | [] => 0
  | d :: r => uptoBulk d + uptoBulkAll r
def uptoBulkEntries {H : Type} : List (Lit × DataW H) → Nat
  | [] => 0
  | x :: r => uptoBulkEntry x + uptoBulkEntries r
def uptoBulkEntry {H : Type} : Lit × DataW H → Nat
  | (.string bytes, d) => bytes.length + uptoBulk d + 1
  | (_, d) => uptoBulk d + 1
 end
def uptoSmall : (H : Type) → List (DataW H) → Bool := fun _ ds => decide (uptoBulkAll ds ≤ 1048576)
def OpenSpec.upto (s : _root_.Go.ChangeSpec) : _root_.Go.OpenSpec := { _root_.Go.OpenSpec.ofChange s with cond := some uptoSmall }

/-- 'casketlaw1.TapeNew', WHERE WHAT IT READS IS OF BULK AT MOST 1048576: true; the input reads as it did. -/
def tapeNewUptoRow : OpenClaim := { program := "ytchoppeoaehgnaa", sum := "92b0fad36d1b881338292d86e20969cddf5dfb7d07dfd2074b7312a2659b32cc", func := "casket/casketlaw1.TapeNew", spec := "tapeNew", apart := false, narrowed := true }
def TapeNewUptoSaid : Prop := tapeNewUptoRow.holds Try.pinned (OpenSpec.upto tapeNewSpec)

/-- 'casketlaw1.TapeDraws', WHERE WHAT IT READS IS OF BULK AT MOST 1048576: true; the input reads as it did. -/
def tapeDrawsUptoRow : OpenClaim := { program := "ytchoppeoaehgnaa", sum := "92b0fad36d1b881338292d86e20969cddf5dfb7d07dfd2074b7312a2659b32cc", func := "casket/casketlaw1.TapeDraws", spec := "tapeDraws", apart := false, narrowed := true }
def TapeDrawsUptoSaid : Prop := tapeDrawsUptoRow.holds Try.pinned (OpenSpec.upto tapeDrawsSpec)

/-- 'casketlaw1.TapeInOrder', WHERE WHAT IT READS IS OF BULK AT MOST 1048576: true; the input reads as it did. -/
def tapeInOrderUptoRow : OpenClaim := { program := "ytchoppeoaehgnaa", sum := "92b0fad36d1b881338292d86e20969cddf5dfb7d07dfd2074b7312a2659b32cc", func := "casket/casketlaw1.TapeInOrder", spec := "tapeInOrder", apart := false, narrowed := true }
def TapeInOrderUptoSaid : Prop := tapeInOrderUptoRow.holds Try.pinned (OpenSpec.upto tapeInOrderSpec)

/-- 'casketlaw1.TapeSplit', WHERE WHAT IT READS IS OF BULK AT MOST 1048576: true; the input reads as it did. -/
def tapeSplitUptoRow : OpenClaim := { program := "ytchoppeoaehgnaa", sum := "92b0fad36d1b881338292d86e20969cddf5dfb7d07dfd2074b7312a2659b32cc", func := "casket/casketlaw1.TapeSplit", spec := "tapeSplit", apart := false, narrowed := true }
def TapeSplitUptoSaid : Prop := tapeSplitUptoRow.holds Try.pinned (OpenSpec.upto tapeSplitSpec)

/-- 'casketlaw1.TapeApart', WHERE WHAT IT READS IS OF BULK AT MOST 1048576: true; the input reads as it did. -/
def tapeApartUptoRow : OpenClaim := { program := "ytchoppeoaehgnaa", sum := "92b0fad36d1b881338292d86e20969cddf5dfb7d07dfd2074b7312a2659b32cc", func := "casket/casketlaw1.TapeApart", spec := "tapeApart", apart := false, narrowed := true }
def TapeApartUptoSaid : Prop := tapeApartUptoRow.holds Try.pinned (OpenSpec.upto tapeApartSpec)

end Rows
end Go.Proofs.Ytchoppeoaehgnaa
