/-
  No cell of these rows narrows 'for every input' (looked for: loops, veiled, ifaces, maps, wideKeys, modest, calm, conditions, laid).
  DERIVED. THE GIVEN ROWS OF THIS SEAT. 3 by the template 'for every input the law returns true; each argument reads behind the call as it read before'; 0 by the template 'total and deterministic' (their statements: YtfoigonlbhecdaaTotals.lean).
  GIVEN WITH THE SEED: the statements are not yours to turn. If you find one false, say at which input.
  Laid BY PROGRAM, IN A SANDBOX (cutbox-rows.mjs): the forced cells as the released guide's own fill.sh prints them over the translation 860fd826f2ba30ab… (all of the seat's roots in one cut). By AI agents, Wed Nov 11 2026. No macro, syntax, notation, axiom, sorry.
-/
import Derived.Test.YtfoigonlbhecdaaChecked
import GoSem.Claim
import GoSem.ClaimJoined
import GoSem.ClaimMapViews
import Derived.JoinedTies
import Derived.KernelRfl
namespace Go.Proofs.Ytfoigonlbhecdaa
/- THE CELL 'sum', in the pinned program and in every row, IS THE sha256 OF THE DUMP (.gsa) THAT YtfoigonlbhecdaaProg.lean LOADS. Nothing in Lean hashes anything: it is a label: what it is worth is what the hold of that sum in a sandbox is worth. -/
noncomputable def Try.pinned : Pinned := { name := "ytfoigonlbhecdaa", sum := "860fd826f2ba30abf5ad2226cd6668d7af9d1ce768447cfbb12b6d28168d57a2", checked := Try.checked }
namespace Rows
def none {H : Type} : Left H := { results := [], args := [] }

/-- 'casketlaw2.ShaHexes': WHATEVER THE INPUT: true; the input reads as it did. -/
def shaHexesSpec : ChangeSpec := { name := "shaHexes", fn := fun _ => fun
  | [d] => { results := [.lit (.bool true)], args := [d] }
  | _ => none }
def shaHexesRow : OpenClaim := { program := "ytfoigonlbhecdaa", sum := "860fd826f2ba30abf5ad2226cd6668d7af9d1ce768447cfbb12b6d28168d57a2", func := "casket/casketlaw2.ShaHexes", spec := "shaHexes", apart := false }
def ShaHexesSaid : Prop := shaHexesRow.holds Try.pinned (OpenSpec.ofChange shaHexesSpec)

/-- ITS FALSE NEIGHBOUR: 'it returns false'. Refute it at one input. -/
def shaHexesWrong : ChangeSpec := { name := "shaHexes", fn := fun _ => fun
  | [d] => { results := [.lit (.bool false)], args := [d] }
  | _ => none }
def ShaHexesWrongFalsely : Prop := shaHexesRow.holds Try.pinned (OpenSpec.ofChange shaHexesWrong)

/-- 'casketlaw26.SharesMuls': WHATEVER THE INPUT: true; the input reads as it did. -/
def sharesMulsSpec : ChangeSpec := { name := "sharesMuls", fn := fun _ => fun
  | [d1, d2] => { results := [.lit (.bool true)], args := [d1, d2] }
  | _ => none }
def sharesMulsRow : OpenClaim := { program := "ytfoigonlbhecdaa", sum := "860fd826f2ba30abf5ad2226cd6668d7af9d1ce768447cfbb12b6d28168d57a2", func := "casket/casketlaw26.SharesMuls", spec := "sharesMuls", apart := false }
def SharesMulsSaid : Prop := sharesMulsRow.holds Try.pinned (OpenSpec.ofChange sharesMulsSpec)

/-- ITS FALSE NEIGHBOUR: 'it returns false'. Refute it at one input. -/
def sharesMulsWrong : ChangeSpec := { name := "sharesMuls", fn := fun _ => fun
  | [d1, d2] => { results := [.lit (.bool false)], args := [d1, d2] }
  | _ => none }
def SharesMulsWrongFalsely : Prop := sharesMulsRow.holds Try.pinned (OpenSpec.ofChange sharesMulsWrong)

/-- 'casketlaw26.SharesField': WHATEVER THE INPUT: true; the input reads as it did. -/
def sharesFieldSpec : ChangeSpec := { name := "sharesField", fn := fun _ => fun
  | [d1, d2, d3] => { results := [.lit (.bool true)], args := [d1, d2, d3] }
  | _ => none }
def sharesFieldRow : OpenClaim := { program := "ytfoigonlbhecdaa", sum := "860fd826f2ba30abf5ad2226cd6668d7af9d1ce768447cfbb12b6d28168d57a2", func := "casket/casketlaw26.SharesField", spec := "sharesField", apart := false }
def SharesFieldSaid : Prop := sharesFieldRow.holds Try.pinned (OpenSpec.ofChange sharesFieldSpec)

/-- ITS FALSE NEIGHBOUR: 'it returns false'. Refute it at one input. -/
def sharesFieldWrong : ChangeSpec := { name := "sharesField", fn := fun _ => fun
  | [d1, d2, d3] => { results := [.lit (.bool false)], args := [d1, d2, d3] }
  | _ => none }
def SharesFieldWrongFalsely : Prop := sharesFieldRow.holds Try.pinned (OpenSpec.ofChange sharesFieldWrong)

/- THE SECOND FORM. 'bulk': how many values and letters a reading holds, each counted each time it is reached (what is shared counts as often as it is met; a slice's spare places count too). A statement '..UptoSaid' is the law's where the arguments, and the package variables that the reading takes, are together of bulk at most 1048576: NARROWER than '..Said'. Prove '..Said' where nothing that the law and all that it calls make is longer than what came in: it says more and counts as full. Else prove '..UptoSaid'. A law counts once. -/
mutual
def uptoBulk {H : Type} : DataW H → Nat
  | .lit (.string bytes) => bytes.length + 1
  | .lit _ => 1
  | .nil => 1
  | .ptr d => uptoBulk d + 1
  | .slice elems spare => uptoBulkAll elems + uptoBulkAll spare + 1
  | .agg parts => uptoBulkAll parts + 1
  | .iface _ d => uptoBulk d + 1
  | .map entries => uptoBulkEntries entries + 1
  | .held _ => 1
def uptoBulkAll {H : Type} : List (DataW H) → Nat
  | [] => 0
  | d :: r => uptoBulk d + uptoBulkAll r
def uptoBulkEntries {H : Type} : List (Lit × DataW H) → Nat
  | [] => 0
  | x :: r => uptoBulkEntry x + uptoBulkEntries r
def uptoBulkEntry {H : Type} : Lit × DataW H → Nat
  | (.string bytes, d) => bytes.length + uptoBulk d + 1
  | (_, d) => uptoBulk d + 1
 end
def uptoSmall : (H : Type) → List (DataW H) → Bool := fun _ ds => decide (uptoBulkAll ds ≤ 1048576)
def OpenSpec.upto (s : _root_.Go.ChangeSpec) : _root_.Go.OpenSpec := { _root_.Go.OpenSpec.ofChange s with cond := some uptoSmall }

/-- 'casketlaw2.ShaHexes', WHERE WHAT IT READS IS OF BULK AT MOST 1048576: true; the input reads as it did. -/
def shaHexesUptoRow : OpenClaim := { program := "ytfoigonlbhecdaa", sum := "860fd826f2ba30abf5ad2226cd6668d7af9d1ce768447cfbb12b6d28168d57a2", func := "casket/casketlaw2.ShaHexes", spec := "shaHexes", apart := false, narrowed := true }
def ShaHexesUptoSaid : Prop := shaHexesUptoRow.holds Try.pinned (OpenSpec.upto shaHexesSpec)

/-- 'casketlaw26.SharesMuls', WHERE WHAT IT READS IS OF BULK AT MOST 1048576: true; the input reads as it did. -/
def sharesMulsUptoRow : OpenClaim := { program := "ytfoigonlbhecdaa", sum := "860fd826f2ba30abf5ad2226cd6668d7af9d1ce768447cfbb12b6d28168d57a2", func := "casket/casketlaw26.SharesMuls", spec := "sharesMuls", apart := false, narrowed := true }
def SharesMulsUptoSaid : Prop := sharesMulsUptoRow.holds Try.pinned (OpenSpec.upto sharesMulsSpec)

/-- 'casketlaw26.SharesField', WHERE WHAT IT READS IS OF BULK AT MOST 1048576: true; the input reads as it did. -/
def sharesFieldUptoRow : OpenClaim := { program := "ytfoigonlbhecdaa", sum := "860fd826f2ba30abf5ad2226cd6668d7af9d1ce768447cfbb12b6d28168d57a2", func := "casket/casketlaw26.SharesField", spec := "sharesField", apart := false, narrowed := true }
def SharesFieldUptoSaid : Prop := sharesFieldUptoRow.holds Try.pinned (OpenSpec.upto sharesFieldSpec)

end Rows
end Go.Proofs.Ytfoigonlbhecdaa
