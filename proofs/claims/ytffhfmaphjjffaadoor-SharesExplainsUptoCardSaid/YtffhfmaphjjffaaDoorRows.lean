/-
  NARROWER THAN 'FOR EVERY INPUT', by the rows' own cells (each row's printed sentence says how): SharesSplits: laid · SharesLinear: laid · SharesJoins: laid · SharesExplains: laid · SharesAny: laid · SharesSpoilt: laid · SharesMixed: laid · SharesSecret: laid.
  DERIVED. THE GIVEN ROWS OF THIS SEAT. 8 by the template 'for every input the law returns true; each argument reads behind the call as it read before'; 0 by the template 'total and deterministic' (their statements: YtffhfmaphjjffaaDoorTotals.lean).
  GIVEN WITH THE SEED: the statements are not yours to turn. If you find one false, say at which input.
  Laid BY PROGRAM, IN A SANDBOX (cutbox-rows.mjs): the forced cells as the released guide's own fill.sh prints them over the translation b8541e580feb9f35… (all of the seat's roots in one cut). By AI agents, Wed Nov 11 2026. No macro, syntax, notation, axiom, sorry.
-/
import Derived.Test.YtffhfmaphjjffaaDoorChecked
import GoSem.Claim
import GoSem.ClaimJoined
import GoSem.ClaimMapViews
import Derived.JoinedTies
import Derived.KernelRfl
namespace Go.Proofs.YtffhfmaphjjffaaDoor
/- THE CELL 'sum', in the pinned program and in every row, IS THE sha256 OF THE DUMP (.gsa) THAT YtffhfmaphjjffaaDoorProg.lean LOADS. Nothing in Lean hashes anything: it is a label: what it is worth is what the hold of that sum in a sandbox is worth. -/
noncomputable def Tryd.pinned : Pinned := { name := "ytffhfmaphjjffaadoor", sum := "b8541e580feb9f359a96a7f8b172267ffb923bb59e932340db4401e30d7af7fc", checked := Tryd.checked }
namespace Rows
def none {H : Type} : Left H := { results := [], args := [] }

/- WHAT THE LISTED PACKAGE-LEVEL VARIABLES READ AS WHEN THE CALL BEGINS. Each datum BY PROGRAM (the guide's laid-datum.mjs) off the statement by which the dump's own 'gosem.cut.vars' lays the variable. In a bare row this is a premise. The card (YtffhfmaphjjffaaDoorCards.lean) ties it to the program's text. -/
def laid_casket_casketref2_roots {H : Type} : DataW H := .agg [.lit (.int .i64 1116352408), .lit (.int .i64 1899447441), .lit (.int .i64 3049323471), .lit (.int .i64 3921009573), .lit (.int .i64 961987163), .lit (.int .i64 1508970993), .lit (.int .i64 2453635748), .lit (.int .i64 2870763221), .lit (.int .i64 3624381080), .lit (.int .i64 310598401), .lit (.int .i64 607225278), .lit (.int .i64 1426881987), .lit (.int .i64 1925078388), .lit (.int .i64 2162078206), .lit (.int .i64 2614888103), .lit (.int .i64 3248222580), .lit (.int .i64 3835390401), .lit (.int .i64 4022224774), .lit (.int .i64 264347078), .lit (.int .i64 604807628), .lit (.int .i64 770255983), .lit (.int .i64 1249150122), .lit (.int .i64 1555081692), .lit (.int .i64 1996064986), .lit (.int .i64 2554220882), .lit (.int .i64 2821834349), .lit (.int .i64 2952996808), .lit (.int .i64 3210313671), .lit (.int .i64 3336571891), .lit (.int .i64 3584528711), .lit (.int .i64 113926993), .lit (.int .i64 338241895), .lit (.int .i64 666307205), .lit (.int .i64 773529912), .lit (.int .i64 1294757372), .lit (.int .i64 1396182291), .lit (.int .i64 1695183700), .lit (.int .i64 1986661051), .lit (.int .i64 2177026350), .lit (.int .i64 2456956037), .lit (.int .i64 2730485921), .lit (.int .i64 2820302411), .lit (.int .i64 3259730800), .lit (.int .i64 3345764771), .lit (.int .i64 3516065817), .lit (.int .i64 3600352804), .lit (.int .i64 4094571909), .lit (.int .i64 275423344), .lit (.int .i64 430227734), .lit (.int .i64 506948616), .lit (.int .i64 659060556), .lit (.int .i64 883997877), .lit (.int .i64 958139571), .lit (.int .i64 1322822218), .lit (.int .i64 1537002063), .lit (.int .i64 1747873779), .lit (.int .i64 1955562222), .lit (.int .i64 2024104815), .lit (.int .i64 2227730452), .lit (.int .i64 2361852424), .lit (.int .i64 2428436474), .lit (.int .i64 2756734187), .lit (.int .i64 3204031479), .lit (.int .i64 3329325298)]
def laid_casket_casketref2_powers {H : Type} : DataW H := .agg [.lit (.int .i64 1), .lit (.int .i64 2), .lit (.int .i64 4), .lit (.int .i64 8), .lit (.int .i64 16), .lit (.int .i64 32), .lit (.int .i64 64), .lit (.int .i64 128), .lit (.int .i64 256), .lit (.int .i64 512), .lit (.int .i64 1024), .lit (.int .i64 2048), .lit (.int .i64 4096), .lit (.int .i64 8192), .lit (.int .i64 16384), .lit (.int .i64 32768), .lit (.int .i64 65536), .lit (.int .i64 131072), .lit (.int .i64 262144), .lit (.int .i64 524288), .lit (.int .i64 1048576), .lit (.int .i64 2097152), .lit (.int .i64 4194304), .lit (.int .i64 8388608), .lit (.int .i64 16777216), .lit (.int .i64 33554432), .lit (.int .i64 67108864), .lit (.int .i64 134217728), .lit (.int .i64 268435456), .lit (.int .i64 536870912), .lit (.int .i64 1073741824), .lit (.int .i64 2147483648), .lit (.int .i64 4294967296)]
def laid_casket_sha_first {H : Type} : DataW H := .agg [.lit (.int .u32 1779033703), .lit (.int .u32 3144134277), .lit (.int .u32 1013904242), .lit (.int .u32 2773480762), .lit (.int .u32 1359893119), .lit (.int .u32 2600822924), .lit (.int .u32 528734635), .lit (.int .u32 1541459225)]
def laid_casket_sha_roots {H : Type} : DataW H := .agg [.lit (.int .u32 1116352408), .lit (.int .u32 1899447441), .lit (.int .u32 3049323471), .lit (.int .u32 3921009573), .lit (.int .u32 961987163), .lit (.int .u32 1508970993), .lit (.int .u32 2453635748), .lit (.int .u32 2870763221), .lit (.int .u32 3624381080), .lit (.int .u32 310598401), .lit (.int .u32 607225278), .lit (.int .u32 1426881987), .lit (.int .u32 1925078388), .lit (.int .u32 2162078206), .lit (.int .u32 2614888103), .lit (.int .u32 3248222580), .lit (.int .u32 3835390401), .lit (.int .u32 4022224774), .lit (.int .u32 264347078), .lit (.int .u32 604807628), .lit (.int .u32 770255983), .lit (.int .u32 1249150122), .lit (.int .u32 1555081692), .lit (.int .u32 1996064986), .lit (.int .u32 2554220882), .lit (.int .u32 2821834349), .lit (.int .u32 2952996808), .lit (.int .u32 3210313671), .lit (.int .u32 3336571891), .lit (.int .u32 3584528711), .lit (.int .u32 113926993), .lit (.int .u32 338241895), .lit (.int .u32 666307205), .lit (.int .u32 773529912), .lit (.int .u32 1294757372), .lit (.int .u32 1396182291), .lit (.int .u32 1695183700), .lit (.int .u32 1986661051), .lit (.int .u32 2177026350), .lit (.int .u32 2456956037), .lit (.int .u32 2730485921), .lit (.int .u32 2820302411), .lit (.int .u32 3259730800), .lit (.int .u32 3345764771), .lit (.int .u32 3516065817), .lit (.int .u32 3600352804), .lit (.int .u32 4094571909), .lit (.int .u32 275423344), .lit (.int .u32 430227734), .lit (.int .u32 506948616), .lit (.int .u32 659060556), .lit (.int .u32 883997877), .lit (.int .u32 958139571), .lit (.int .u32 1322822218), .lit (.int .u32 1537002063), .lit (.int .u32 1747873779), .lit (.int .u32 1955562222), .lit (.int .u32 2024104815), .lit (.int .u32 2227730452), .lit (.int .u32 2361852424), .lit (.int .u32 2428436474), .lit (.int .u32 2756734187), .lit (.int .u32 3204031479), .lit (.int .u32 3329325298)]

/-- 'casketlaw26.SharesSplits': WHATEVER THE INPUT: true; the input reads as it did. -/
def sharesSplitsSpec : ChangeSpec := { name := "sharesSplits", fn := fun _ => fun
  | [d1, d2, d3, d4, d5] => { results := [.lit (.bool true)], args := [d1, d2, d3, d4, d5] }
  | _ => none }
def sharesSplitsRow : OpenClaim := { program := "ytffhfmaphjjffaadoor", sum := "b8541e580feb9f359a96a7f8b172267ffb923bb59e932340db4401e30d7af7fc", func := "casket/casketlaw26.SharesSplits", spec := "sharesSplits", named := ["casket/sha.first", "casket/sha.roots", "casket/casketref2.roots", "casket/casketref2.powers"], apart := false, laid := [("casket/casketref2.roots", laid_casket_casketref2_roots), ("casket/casketref2.powers", laid_casket_casketref2_powers), ("casket/sha.first", laid_casket_sha_first), ("casket/sha.roots", laid_casket_sha_roots)] }
def SharesSplitsSaid : Prop := sharesSplitsRow.holds Tryd.pinned (OpenSpec.ofChange sharesSplitsSpec)

/-- ITS FALSE NEIGHBOUR: 'it returns false'. Refute it at one input. -/
def sharesSplitsWrong : ChangeSpec := { name := "sharesSplits", fn := fun _ => fun
  | [d1, d2, d3, d4, d5] => { results := [.lit (.bool false)], args := [d1, d2, d3, d4, d5] }
  | _ => none }
def SharesSplitsWrongFalsely : Prop := sharesSplitsRow.holds Tryd.pinned (OpenSpec.ofChange sharesSplitsWrong)

/-- 'casketlaw26.SharesLinear': WHATEVER THE INPUT: true; the input reads as it did. -/
def sharesLinearSpec : ChangeSpec := { name := "sharesLinear", fn := fun _ => fun
  | [d1, d2, d3] => { results := [.lit (.bool true)], args := [d1, d2, d3] }
  | _ => none }
def sharesLinearRow : OpenClaim := { program := "ytffhfmaphjjffaadoor", sum := "b8541e580feb9f359a96a7f8b172267ffb923bb59e932340db4401e30d7af7fc", func := "casket/casketlaw26.SharesLinear", spec := "sharesLinear", named := ["casket/sha.first", "casket/sha.roots"], apart := false, laid := [("casket/sha.first", laid_casket_sha_first), ("casket/sha.roots", laid_casket_sha_roots)] }
def SharesLinearSaid : Prop := sharesLinearRow.holds Tryd.pinned (OpenSpec.ofChange sharesLinearSpec)

/-- ITS FALSE NEIGHBOUR: 'it returns false'. Refute it at one input. -/
def sharesLinearWrong : ChangeSpec := { name := "sharesLinear", fn := fun _ => fun
  | [d1, d2, d3] => { results := [.lit (.bool false)], args := [d1, d2, d3] }
  | _ => none }
def SharesLinearWrongFalsely : Prop := sharesLinearRow.holds Tryd.pinned (OpenSpec.ofChange sharesLinearWrong)

/-- 'casketlaw26.SharesJoins': WHATEVER THE INPUT: true; the input reads as it did. -/
def sharesJoinsSpec : ChangeSpec := { name := "sharesJoins", fn := fun _ => fun
  | [d] => { results := [.lit (.bool true)], args := [d] }
  | _ => none }
def sharesJoinsRow : OpenClaim := { program := "ytffhfmaphjjffaadoor", sum := "b8541e580feb9f359a96a7f8b172267ffb923bb59e932340db4401e30d7af7fc", func := "casket/casketlaw26.SharesJoins", spec := "sharesJoins", named := ["casket/sha.first", "casket/sha.roots", "casket/casketref2.roots", "casket/casketref2.powers"], apart := false, laid := [("casket/casketref2.roots", laid_casket_casketref2_roots), ("casket/casketref2.powers", laid_casket_casketref2_powers), ("casket/sha.first", laid_casket_sha_first), ("casket/sha.roots", laid_casket_sha_roots)] }
def SharesJoinsSaid : Prop := sharesJoinsRow.holds Tryd.pinned (OpenSpec.ofChange sharesJoinsSpec)

/-- ITS FALSE NEIGHBOUR: 'it returns false'. Refute it at one input. -/
def sharesJoinsWrong : ChangeSpec := { name := "sharesJoins", fn := fun _ => fun
  | [d] => { results := [.lit (.bool false)], args := [d] }
  | _ => none }
def SharesJoinsWrongFalsely : Prop := sharesJoinsRow.holds Tryd.pinned (OpenSpec.ofChange sharesJoinsWrong)

/-- 'casketlaw26.SharesExplains': WHATEVER THE INPUT: true; the input reads as it did. -/
def sharesExplainsSpec : ChangeSpec := { name := "sharesExplains", fn := fun _ => fun
  | [d1, d2] => { results := [.lit (.bool true)], args := [d1, d2] }
  | _ => none }
def sharesExplainsRow : OpenClaim := { program := "ytffhfmaphjjffaadoor", sum := "b8541e580feb9f359a96a7f8b172267ffb923bb59e932340db4401e30d7af7fc", func := "casket/casketlaw26.SharesExplains", spec := "sharesExplains", named := ["casket/sha.first", "casket/sha.roots", "casket/casketref2.roots", "casket/casketref2.powers"], apart := false, laid := [("casket/casketref2.roots", laid_casket_casketref2_roots), ("casket/casketref2.powers", laid_casket_casketref2_powers), ("casket/sha.first", laid_casket_sha_first), ("casket/sha.roots", laid_casket_sha_roots)] }
def SharesExplainsSaid : Prop := sharesExplainsRow.holds Tryd.pinned (OpenSpec.ofChange sharesExplainsSpec)

/-- ITS FALSE NEIGHBOUR: 'it returns false'. Refute it at one input. -/
def sharesExplainsWrong : ChangeSpec := { name := "sharesExplains", fn := fun _ => fun
  | [d1, d2] => { results := [.lit (.bool false)], args := [d1, d2] }
  | _ => none }
def SharesExplainsWrongFalsely : Prop := sharesExplainsRow.holds Tryd.pinned (OpenSpec.ofChange sharesExplainsWrong)

/-- 'casketlaw26.SharesAny': WHATEVER THE INPUT: true; the input reads as it did. -/
def sharesAnySpec : ChangeSpec := { name := "sharesAny", fn := fun _ => fun
  | [d1, d2, d3] => { results := [.lit (.bool true)], args := [d1, d2, d3] }
  | _ => none }
def sharesAnyRow : OpenClaim := { program := "ytffhfmaphjjffaadoor", sum := "b8541e580feb9f359a96a7f8b172267ffb923bb59e932340db4401e30d7af7fc", func := "casket/casketlaw26.SharesAny", spec := "sharesAny", named := ["casket/sha.first", "casket/sha.roots"], apart := false, laid := [("casket/sha.first", laid_casket_sha_first), ("casket/sha.roots", laid_casket_sha_roots)] }
def SharesAnySaid : Prop := sharesAnyRow.holds Tryd.pinned (OpenSpec.ofChange sharesAnySpec)

/-- ITS FALSE NEIGHBOUR: 'it returns false'. Refute it at one input. -/
def sharesAnyWrong : ChangeSpec := { name := "sharesAny", fn := fun _ => fun
  | [d1, d2, d3] => { results := [.lit (.bool false)], args := [d1, d2, d3] }
  | _ => none }
def SharesAnyWrongFalsely : Prop := sharesAnyRow.holds Tryd.pinned (OpenSpec.ofChange sharesAnyWrong)

/-- 'casketlaw26.SharesSpoilt': WHATEVER THE INPUT: true; the input reads as it did. -/
def sharesSpoiltSpec : ChangeSpec := { name := "sharesSpoilt", fn := fun _ => fun
  | [d1, d2, d3, d4, d5] => { results := [.lit (.bool true)], args := [d1, d2, d3, d4, d5] }
  | _ => none }
def sharesSpoiltRow : OpenClaim := { program := "ytffhfmaphjjffaadoor", sum := "b8541e580feb9f359a96a7f8b172267ffb923bb59e932340db4401e30d7af7fc", func := "casket/casketlaw26.SharesSpoilt", spec := "sharesSpoilt", named := ["casket/sha.first", "casket/sha.roots"], apart := false, laid := [("casket/sha.first", laid_casket_sha_first), ("casket/sha.roots", laid_casket_sha_roots)] }
def SharesSpoiltSaid : Prop := sharesSpoiltRow.holds Tryd.pinned (OpenSpec.ofChange sharesSpoiltSpec)

/-- ITS FALSE NEIGHBOUR: 'it returns false'. Refute it at one input. -/
def sharesSpoiltWrong : ChangeSpec := { name := "sharesSpoilt", fn := fun _ => fun
  | [d1, d2, d3, d4, d5] => { results := [.lit (.bool false)], args := [d1, d2, d3, d4, d5] }
  | _ => none }
def SharesSpoiltWrongFalsely : Prop := sharesSpoiltRow.holds Tryd.pinned (OpenSpec.ofChange sharesSpoiltWrong)

/-- 'casketlaw26.SharesMixed': WHATEVER THE INPUT: true; the input reads as it did. -/
def sharesMixedSpec : ChangeSpec := { name := "sharesMixed", fn := fun _ => fun
  | [d1, d2, d3, d4] => { results := [.lit (.bool true)], args := [d1, d2, d3, d4] }
  | _ => none }
def sharesMixedRow : OpenClaim := { program := "ytffhfmaphjjffaadoor", sum := "b8541e580feb9f359a96a7f8b172267ffb923bb59e932340db4401e30d7af7fc", func := "casket/casketlaw26.SharesMixed", spec := "sharesMixed", named := ["casket/sha.first", "casket/sha.roots"], apart := false, laid := [("casket/sha.first", laid_casket_sha_first), ("casket/sha.roots", laid_casket_sha_roots)] }
def SharesMixedSaid : Prop := sharesMixedRow.holds Tryd.pinned (OpenSpec.ofChange sharesMixedSpec)

/-- ITS FALSE NEIGHBOUR: 'it returns false'. Refute it at one input. -/
def sharesMixedWrong : ChangeSpec := { name := "sharesMixed", fn := fun _ => fun
  | [d1, d2, d3, d4] => { results := [.lit (.bool false)], args := [d1, d2, d3, d4] }
  | _ => none }
def SharesMixedWrongFalsely : Prop := sharesMixedRow.holds Tryd.pinned (OpenSpec.ofChange sharesMixedWrong)

/-- 'casketlaw26.SharesSecret': WHATEVER THE INPUT: true; the input reads as it did. -/
def sharesSecretSpec : ChangeSpec := { name := "sharesSecret", fn := fun _ => fun
  | [d1, d2, d3] => { results := [.lit (.bool true)], args := [d1, d2, d3] }
  | _ => none }
def sharesSecretRow : OpenClaim := { program := "ytffhfmaphjjffaadoor", sum := "b8541e580feb9f359a96a7f8b172267ffb923bb59e932340db4401e30d7af7fc", func := "casket/casketlaw26.SharesSecret", spec := "sharesSecret", named := ["casket/sha.first", "casket/sha.roots"], apart := false, laid := [("casket/sha.first", laid_casket_sha_first), ("casket/sha.roots", laid_casket_sha_roots)] }
def SharesSecretSaid : Prop := sharesSecretRow.holds Tryd.pinned (OpenSpec.ofChange sharesSecretSpec)

/-- ITS FALSE NEIGHBOUR: 'it returns false'. Refute it at one input. -/
def sharesSecretWrong : ChangeSpec := { name := "sharesSecret", fn := fun _ => fun
  | [d1, d2, d3] => { results := [.lit (.bool false)], args := [d1, d2, d3] }
  | _ => none }
def SharesSecretWrongFalsely : Prop := sharesSecretRow.holds Tryd.pinned (OpenSpec.ofChange sharesSecretWrong)

/- THE SECOND FORM. 'bulk': how many values and letters a reading holds, each counted each time it is reached (what is shared counts as often as it is met; a slice's spare places count too). A statement '..UptoSaid' is the law's where the arguments, and the package variables that the reading takes, are together of bulk at most 1048576: NARROWER than '..Said'. Prove '..Said' where nothing that the law and all that it calls make is longer than what came in: it says more and counts as full. Else prove '..UptoSaid'. A law counts once. -/
mutual
def uptoBulk {H : Type} : DataW H → Nat
  | .lit (.string bytes) => bytes.length + 1
  | .lit _ => 1
  | .nil => 1
  | .ptr d => uptoBulk d + 1
  | .slice elems spare => uptoBulkAll elems + uptoBulkAll spare + 1
  | .agg parts => uptoBulkAll parts + 1
  | .iface _ d => uptoBulk d + 1
  | .map entries => uptoBulkEntries entries + 1
  | .held _ => 1
def uptoBulkAll {H : Type} : List (DataW H) → Nat
  | [] => 0
  | d :: r => uptoBulk d + uptoBulkAll r
def uptoBulkEntries {H : Type} : List (Lit × DataW H) → Nat
  | [] => 0
  | x :: r => uptoBulkEntry x + uptoBulkEntries r
def uptoBulkEntry {H : Type} : Lit × DataW H → Nat
  | (.string bytes, d) => bytes.length + uptoBulk d + 1
  | (_, d) => uptoBulk d + 1
 end
def uptoSmall : (H : Type) → List (DataW H) → Bool := fun _ ds => decide (uptoBulkAll ds ≤ 1048576)
def OpenSpec.upto (s : _root_.Go.ChangeSpec) : _root_.Go.OpenSpec := { _root_.Go.OpenSpec.ofChange s with cond := some uptoSmall }

/-- 'casketlaw26.SharesSplits', WHERE WHAT IT READS IS OF BULK AT MOST 1048576: true; the input reads as it did. -/
def sharesSplitsUptoRow : OpenClaim := { program := "ytffhfmaphjjffaadoor", sum := "b8541e580feb9f359a96a7f8b172267ffb923bb59e932340db4401e30d7af7fc", func := "casket/casketlaw26.SharesSplits", spec := "sharesSplits", named := ["casket/sha.first", "casket/sha.roots", "casket/casketref2.roots", "casket/casketref2.powers"], apart := false, laid := [("casket/casketref2.roots", laid_casket_casketref2_roots), ("casket/casketref2.powers", laid_casket_casketref2_powers), ("casket/sha.first", laid_casket_sha_first), ("casket/sha.roots", laid_casket_sha_roots)], narrowed := true }
def SharesSplitsUptoSaid : Prop := sharesSplitsUptoRow.holds Tryd.pinned (OpenSpec.upto sharesSplitsSpec)

/-- 'casketlaw26.SharesLinear', WHERE WHAT IT READS IS OF BULK AT MOST 1048576: true; the input reads as it did. -/
def sharesLinearUptoRow : OpenClaim := { program := "ytffhfmaphjjffaadoor", sum := "b8541e580feb9f359a96a7f8b172267ffb923bb59e932340db4401e30d7af7fc", func := "casket/casketlaw26.SharesLinear", spec := "sharesLinear", named := ["casket/sha.first", "casket/sha.roots"], apart := false, laid := [("casket/sha.first", laid_casket_sha_first), ("casket/sha.roots", laid_casket_sha_roots)], narrowed := true }
def SharesLinearUptoSaid : Prop := sharesLinearUptoRow.holds Tryd.pinned (OpenSpec.upto sharesLinearSpec)

/-- 'casketlaw26.SharesJoins', WHERE WHAT IT READS IS OF BULK AT MOST 1048576: true; the input reads as it did. -/
def sharesJoinsUptoRow : OpenClaim := { program := "ytffhfmaphjjffaadoor", sum := "b8541e580feb9f359a96a7f8b172267ffb923bb59e932340db4401e30d7af7fc", func := "casket/casketlaw26.SharesJoins", spec := "sharesJoins", named := ["casket/sha.first", "casket/sha.roots", "casket/casketref2.roots", "casket/casketref2.powers"], apart := false, laid := [("casket/casketref2.roots", laid_casket_casketref2_roots), ("casket/casketref2.powers", laid_casket_casketref2_powers), ("casket/sha.first", laid_casket_sha_first), ("casket/sha.roots", laid_casket_sha_roots)], narrowed := true }
def SharesJoinsUptoSaid : Prop := sharesJoinsUptoRow.holds Tryd.pinned (OpenSpec.upto sharesJoinsSpec)

/-- 'casketlaw26.SharesExplains', WHERE WHAT IT READS IS OF BULK AT MOST 1048576: true; the input reads as it did. -/
def sharesExplainsUptoRow : OpenClaim := { program := "ytffhfmaphjjffaadoor", sum := "b8541e580feb9f359a96a7f8b172267ffb923bb59e932340db4401e30d7af7fc", func := "casket/casketlaw26.SharesExplains", spec := "sharesExplains", named := ["casket/sha.first", "casket/sha.roots", "casket/casketref2.roots", "casket/casketref2.powers"], apart := false, laid := [("casket/casketref2.roots", laid_casket_casketref2_roots), ("casket/casketref2.powers", laid_casket_casketref2_powers), ("casket/sha.first", laid_casket_sha_first), ("casket/sha.roots", laid_casket_sha_roots)], narrowed := true }
def SharesExplainsUptoSaid : Prop := sharesExplainsUptoRow.holds Tryd.pinned (OpenSpec.upto sharesExplainsSpec)

/-- 'casketlaw26.SharesAny', WHERE WHAT IT READS IS OF BULK AT MOST 1048576: true; the input reads as it did. -/
def sharesAnyUptoRow : OpenClaim := { program := "ytffhfmaphjjffaadoor", sum := "b8541e580feb9f359a96a7f8b172267ffb923bb59e932340db4401e30d7af7fc", func := "casket/casketlaw26.SharesAny", spec := "sharesAny", named := ["casket/sha.first", "casket/sha.roots"], apart := false, laid := [("casket/sha.first", laid_casket_sha_first), ("casket/sha.roots", laid_casket_sha_roots)], narrowed := true }
def SharesAnyUptoSaid : Prop := sharesAnyUptoRow.holds Tryd.pinned (OpenSpec.upto sharesAnySpec)

/-- 'casketlaw26.SharesSpoilt', WHERE WHAT IT READS IS OF BULK AT MOST 1048576: true; the input reads as it did. -/
def sharesSpoiltUptoRow : OpenClaim := { program := "ytffhfmaphjjffaadoor", sum := "b8541e580feb9f359a96a7f8b172267ffb923bb59e932340db4401e30d7af7fc", func := "casket/casketlaw26.SharesSpoilt", spec := "sharesSpoilt", named := ["casket/sha.first", "casket/sha.roots"], apart := false, laid := [("casket/sha.first", laid_casket_sha_first), ("casket/sha.roots", laid_casket_sha_roots)], narrowed := true }
def SharesSpoiltUptoSaid : Prop := sharesSpoiltUptoRow.holds Tryd.pinned (OpenSpec.upto sharesSpoiltSpec)

/-- 'casketlaw26.SharesMixed', WHERE WHAT IT READS IS OF BULK AT MOST 1048576: true; the input reads as it did. -/
def sharesMixedUptoRow : OpenClaim := { program := "ytffhfmaphjjffaadoor", sum := "b8541e580feb9f359a96a7f8b172267ffb923bb59e932340db4401e30d7af7fc", func := "casket/casketlaw26.SharesMixed", spec := "sharesMixed", named := ["casket/sha.first", "casket/sha.roots"], apart := false, laid := [("casket/sha.first", laid_casket_sha_first), ("casket/sha.roots", laid_casket_sha_roots)], narrowed := true }
def SharesMixedUptoSaid : Prop := sharesMixedUptoRow.holds Tryd.pinned (OpenSpec.upto sharesMixedSpec)

/-- 'casketlaw26.SharesSecret', WHERE WHAT IT READS IS OF BULK AT MOST 1048576: true; the input reads as it did. -/
def sharesSecretUptoRow : OpenClaim := { program := "ytffhfmaphjjffaadoor", sum := "b8541e580feb9f359a96a7f8b172267ffb923bb59e932340db4401e30d7af7fc", func := "casket/casketlaw26.SharesSecret", spec := "sharesSecret", named := ["casket/sha.first", "casket/sha.roots"], apart := false, laid := [("casket/sha.first", laid_casket_sha_first), ("casket/sha.roots", laid_casket_sha_roots)], narrowed := true }
def SharesSecretUptoSaid : Prop := sharesSecretUptoRow.holds Tryd.pinned (OpenSpec.upto sharesSecretSpec)

end Rows
end Go.Proofs.YtffhfmaphjjffaaDoor
