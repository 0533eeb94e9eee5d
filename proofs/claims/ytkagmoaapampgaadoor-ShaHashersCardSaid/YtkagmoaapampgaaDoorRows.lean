/-
  NARROWER THAN 'FOR EVERY INPUT', by the rows' own cells (each row's printed sentence says how): ShaSums: laid · ShaKnown: laid · ShaHexBack: laid · ShaHashers: laid · ShaStates: laid · ShaCuts: laid.
  DERIVED. THE GIVEN ROWS OF THIS SEAT. 6 by the template 'for every input the law returns true; each argument reads behind the call as it read before'; 0 by the template 'total and deterministic' (their statements: YtkagmoaapampgaaDoorTotals.lean).
  GIVEN WITH THE SEED: the statements are not yours to turn. If you find one false, say at which input.
  Laid BY PROGRAM, IN A SANDBOX (cutbox-rows.mjs): the forced cells as the released guide's own fill.sh prints them over the translation bc8369f5bbaeb402… (all of the seat's roots in one cut). By AI agents, Wed Nov 11 2026. No macro, syntax, notation, axiom, sorry.
-/
import Derived.Test.YtkagmoaapampgaaDoorChecked
import GoSem.Claim
import GoSem.ClaimJoined
import GoSem.ClaimMapViews
import Derived.JoinedTies
import Derived.KernelRfl
namespace Go.Proofs.YtkagmoaapampgaaDoor
/- THE CELL 'sum', in the pinned program and in every row, IS THE sha256 OF THE DUMP (.gsa) THAT YtkagmoaapampgaaDoorProg.lean LOADS. Nothing in Lean hashes anything: it is a label: what it is worth is what the hold of that sum in a sandbox is worth. -/
noncomputable def Tryd.pinned : Pinned := { name := "ytkagmoaapampgaadoor", sum := "bc8369f5bbaeb402682101a59cbdcb7333e7f5f888f42d24db3fda04d9e912c1", checked := Tryd.checked }
namespace Rows
def none {H : Type} : Left H := { results := [], args := [] }

/- WHAT THE LISTED PACKAGE-LEVEL VARIABLES READ AS WHEN THE CALL BEGINS. Each datum BY PROGRAM (the guide's laid-datum.mjs) off the statement by which the dump's own 'gosem.cut.vars' lays the variable. In a bare row this is a premise. The card (YtkagmoaapampgaaDoorCards.lean) ties it to the program's text. -/
def laid_casket_casketref2_roots {H : Type} : DataW H := .agg [.lit (.int .i64 1116352408), .lit (.int .i64 1899447441), .lit (.int .i64 3049323471), .lit (.int .i64 3921009573), .lit (.int .i64 961987163), .lit (.int .i64 1508970993), .lit (.int .i64 2453635748), .lit (.int .i64 2870763221), .lit (.int .i64 3624381080), .lit (.int .i64 310598401), .lit (.int .i64 607225278), .lit (.int .i64 1426881987), .lit (.int .i64 1925078388), .lit (.int .i64 2162078206), .lit (.int .i64 2614888103), .lit (.int .i64 3248222580), .lit (.int .i64 3835390401), .lit (.int .i64 4022224774), .lit (.int .i64 264347078), .lit (.int .i64 604807628), .lit (.int .i64 770255983), .lit (.int .i64 1249150122), .lit (.int .i64 1555081692), .lit (.int .i64 1996064986), .lit (.int .i64 2554220882), .lit (.int .i64 2821834349), .lit (.int .i64 2952996808), .lit (.int .i64 3210313671), .lit (.int .i64 3336571891), .lit (.int .i64 3584528711), .lit (.int .i64 113926993), .lit (.int .i64 338241895), .lit (.int .i64 666307205), .lit (.int .i64 773529912), .lit (.int .i64 1294757372), .lit (.int .i64 1396182291), .lit (.int .i64 1695183700), .lit (.int .i64 1986661051), .lit (.int .i64 2177026350), .lit (.int .i64 2456956037), .lit (.int .i64 2730485921), .lit (.int .i64 2820302411), .lit (.int .i64 3259730800), .lit (.int .i64 3345764771), .lit (.int .i64 3516065817), .lit (.int .i64 3600352804), .lit (.int .i64 4094571909), .lit (.int .i64 275423344), .lit (.int .i64 430227734), .lit (.int .i64 506948616), .lit (.int .i64 659060556), .lit (.int .i64 883997877), .lit (.int .i64 958139571), .lit (.int .i64 1322822218), .lit (.int .i64 1537002063), .lit (.int .i64 1747873779), .lit (.int .i64 1955562222), .lit (.int .i64 2024104815), .lit (.int .i64 2227730452), .lit (.int .i64 2361852424), .lit (.int .i64 2428436474), .lit (.int .i64 2756734187), .lit (.int .i64 3204031479), .lit (.int .i64 3329325298)]
def laid_casket_casketref2_powers {H : Type} : DataW H := .agg [.lit (.int .i64 1), .lit (.int .i64 2), .lit (.int .i64 4), .lit (.int .i64 8), .lit (.int .i64 16), .lit (.int .i64 32), .lit (.int .i64 64), .lit (.int .i64 128), .lit (.int .i64 256), .lit (.int .i64 512), .lit (.int .i64 1024), .lit (.int .i64 2048), .lit (.int .i64 4096), .lit (.int .i64 8192), .lit (.int .i64 16384), .lit (.int .i64 32768), .lit (.int .i64 65536), .lit (.int .i64 131072), .lit (.int .i64 262144), .lit (.int .i64 524288), .lit (.int .i64 1048576), .lit (.int .i64 2097152), .lit (.int .i64 4194304), .lit (.int .i64 8388608), .lit (.int .i64 16777216), .lit (.int .i64 33554432), .lit (.int .i64 67108864), .lit (.int .i64 134217728), .lit (.int .i64 268435456), .lit (.int .i64 536870912), .lit (.int .i64 1073741824), .lit (.int .i64 2147483648), .lit (.int .i64 4294967296)]
def laid_casket_sha_first {H : Type} : DataW H := .agg [.lit (.int .u32 1779033703), .lit (.int .u32 3144134277), .lit (.int .u32 1013904242), .lit (.int .u32 2773480762), .lit (.int .u32 1359893119), .lit (.int .u32 2600822924), .lit (.int .u32 528734635), .lit (.int .u32 1541459225)]
def laid_casket_sha_roots {H : Type} : DataW H := .agg [.lit (.int .u32 1116352408), .lit (.int .u32 1899447441), .lit (.int .u32 3049323471), .lit (.int .u32 3921009573), .lit (.int .u32 961987163), .lit (.int .u32 1508970993), .lit (.int .u32 2453635748), .lit (.int .u32 2870763221), .lit (.int .u32 3624381080), .lit (.int .u32 310598401), .lit (.int .u32 607225278), .lit (.int .u32 1426881987), .lit (.int .u32 1925078388), .lit (.int .u32 2162078206), .lit (.int .u32 2614888103), .lit (.int .u32 3248222580), .lit (.int .u32 3835390401), .lit (.int .u32 4022224774), .lit (.int .u32 264347078), .lit (.int .u32 604807628), .lit (.int .u32 770255983), .lit (.int .u32 1249150122), .lit (.int .u32 1555081692), .lit (.int .u32 1996064986), .lit (.int .u32 2554220882), .lit (.int .u32 2821834349), .lit (.int .u32 2952996808), .lit (.int .u32 3210313671), .lit (.int .u32 3336571891), .lit (.int .u32 3584528711), .lit (.int .u32 113926993), .lit (.int .u32 338241895), .lit (.int .u32 666307205), .lit (.int .u32 773529912), .lit (.int .u32 1294757372), .lit (.int .u32 1396182291), .lit (.int .u32 1695183700), .lit (.int .u32 1986661051), .lit (.int .u32 2177026350), .lit (.int .u32 2456956037), .lit (.int .u32 2730485921), .lit (.int .u32 2820302411), .lit (.int .u32 3259730800), .lit (.int .u32 3345764771), .lit (.int .u32 3516065817), .lit (.int .u32 3600352804), .lit (.int .u32 4094571909), .lit (.int .u32 275423344), .lit (.int .u32 430227734), .lit (.int .u32 506948616), .lit (.int .u32 659060556), .lit (.int .u32 883997877), .lit (.int .u32 958139571), .lit (.int .u32 1322822218), .lit (.int .u32 1537002063), .lit (.int .u32 1747873779), .lit (.int .u32 1955562222), .lit (.int .u32 2024104815), .lit (.int .u32 2227730452), .lit (.int .u32 2361852424), .lit (.int .u32 2428436474), .lit (.int .u32 2756734187), .lit (.int .u32 3204031479), .lit (.int .u32 3329325298)]

/-- 'casketlaw2.ShaSums': WHATEVER THE INPUT: true; the input reads as it did. -/
def shaSumsSpec : ChangeSpec := { name := "shaSums", fn := fun _ => fun
  | [d] => { results := [.lit (.bool true)], args := [d] }
  | _ => none }
def shaSumsRow : OpenClaim := { program := "ytkagmoaapampgaadoor", sum := "bc8369f5bbaeb402682101a59cbdcb7333e7f5f888f42d24db3fda04d9e912c1", func := "casket/casketlaw2.ShaSums", spec := "shaSums", named := ["casket/sha.first", "casket/sha.roots", "casket/casketref2.roots", "casket/casketref2.powers"], apart := false, laid := [("casket/casketref2.roots", laid_casket_casketref2_roots), ("casket/casketref2.powers", laid_casket_casketref2_powers), ("casket/sha.first", laid_casket_sha_first), ("casket/sha.roots", laid_casket_sha_roots)] }
def ShaSumsSaid : Prop := shaSumsRow.holds Tryd.pinned (OpenSpec.ofChange shaSumsSpec)

/-- ITS FALSE NEIGHBOUR: 'it returns false'. Refute it at one input. -/
def shaSumsWrong : ChangeSpec := { name := "shaSums", fn := fun _ => fun
  | [d] => { results := [.lit (.bool false)], args := [d] }
  | _ => none }
def ShaSumsWrongFalsely : Prop := shaSumsRow.holds Tryd.pinned (OpenSpec.ofChange shaSumsWrong)

/-- 'casketlaw2.ShaKnown': WHATEVER THE INPUT: true; the input reads as it did. -/
def shaKnownSpec : ChangeSpec := { name := "shaKnown", fn := fun _ => fun
  | [] => { results := [.lit (.bool true)], args := [] }
  | _ => none }
def shaKnownRow : OpenClaim := { program := "ytkagmoaapampgaadoor", sum := "bc8369f5bbaeb402682101a59cbdcb7333e7f5f888f42d24db3fda04d9e912c1", func := "casket/casketlaw2.ShaKnown", spec := "shaKnown", named := ["casket/sha.first", "casket/sha.roots"], apart := false, laid := [("casket/sha.first", laid_casket_sha_first), ("casket/sha.roots", laid_casket_sha_roots)] }
def ShaKnownSaid : Prop := shaKnownRow.holds Tryd.pinned (OpenSpec.ofChange shaKnownSpec)

/-- ITS FALSE NEIGHBOUR: 'it returns false'. Refute it at one input. -/
def shaKnownWrong : ChangeSpec := { name := "shaKnown", fn := fun _ => fun
  | [] => { results := [.lit (.bool false)], args := [] }
  | _ => none }
def ShaKnownWrongFalsely : Prop := shaKnownRow.holds Tryd.pinned (OpenSpec.ofChange shaKnownWrong)

/-- 'casketlaw2.ShaHexBack': WHATEVER THE INPUT: true; the input reads as it did. -/
def shaHexBackSpec : ChangeSpec := { name := "shaHexBack", fn := fun _ => fun
  | [d] => { results := [.lit (.bool true)], args := [d] }
  | _ => none }
def shaHexBackRow : OpenClaim := { program := "ytkagmoaapampgaadoor", sum := "bc8369f5bbaeb402682101a59cbdcb7333e7f5f888f42d24db3fda04d9e912c1", func := "casket/casketlaw2.ShaHexBack", spec := "shaHexBack", named := ["casket/sha.first", "casket/sha.roots"], apart := false, laid := [("casket/sha.first", laid_casket_sha_first), ("casket/sha.roots", laid_casket_sha_roots)] }
def ShaHexBackSaid : Prop := shaHexBackRow.holds Tryd.pinned (OpenSpec.ofChange shaHexBackSpec)

/-- ITS FALSE NEIGHBOUR: 'it returns false'. Refute it at one input. -/
def shaHexBackWrong : ChangeSpec := { name := "shaHexBack", fn := fun _ => fun
  | [d] => { results := [.lit (.bool false)], args := [d] }
  | _ => none }
def ShaHexBackWrongFalsely : Prop := shaHexBackRow.holds Tryd.pinned (OpenSpec.ofChange shaHexBackWrong)

/-- 'casketlaw2.ShaHashers': WHATEVER THE INPUT: true; the input reads as it did. -/
def shaHashersSpec : ChangeSpec := { name := "shaHashers", fn := fun _ => fun
  | [d] => { results := [.lit (.bool true)], args := [d] }
  | _ => none }
def shaHashersRow : OpenClaim := { program := "ytkagmoaapampgaadoor", sum := "bc8369f5bbaeb402682101a59cbdcb7333e7f5f888f42d24db3fda04d9e912c1", func := "casket/casketlaw2.ShaHashers", spec := "shaHashers", named := ["casket/sha.first", "casket/casketref2.roots", "casket/casketref2.powers", "casket/sha.roots"], apart := false, laid := [("casket/casketref2.roots", laid_casket_casketref2_roots), ("casket/casketref2.powers", laid_casket_casketref2_powers), ("casket/sha.first", laid_casket_sha_first), ("casket/sha.roots", laid_casket_sha_roots)] }
def ShaHashersSaid : Prop := shaHashersRow.holds Tryd.pinned (OpenSpec.ofChange shaHashersSpec)

/-- ITS FALSE NEIGHBOUR: 'it returns false'. Refute it at one input. -/
def shaHashersWrong : ChangeSpec := { name := "shaHashers", fn := fun _ => fun
  | [d] => { results := [.lit (.bool false)], args := [d] }
  | _ => none }
def ShaHashersWrongFalsely : Prop := shaHashersRow.holds Tryd.pinned (OpenSpec.ofChange shaHashersWrong)

/-- 'casketlaw2.ShaStates': WHATEVER THE INPUT: true; the input reads as it did. -/
def shaStatesSpec : ChangeSpec := { name := "shaStates", fn := fun _ => fun
  | [d1, d2] => { results := [.lit (.bool true)], args := [d1, d2] }
  | _ => none }
def shaStatesRow : OpenClaim := { program := "ytkagmoaapampgaadoor", sum := "bc8369f5bbaeb402682101a59cbdcb7333e7f5f888f42d24db3fda04d9e912c1", func := "casket/casketlaw2.ShaStates", spec := "shaStates", named := ["casket/sha.first", "casket/sha.roots"], apart := false, laid := [("casket/sha.first", laid_casket_sha_first), ("casket/sha.roots", laid_casket_sha_roots)] }
def ShaStatesSaid : Prop := shaStatesRow.holds Tryd.pinned (OpenSpec.ofChange shaStatesSpec)

/-- ITS FALSE NEIGHBOUR: 'it returns false'. Refute it at one input. -/
def shaStatesWrong : ChangeSpec := { name := "shaStates", fn := fun _ => fun
  | [d1, d2] => { results := [.lit (.bool false)], args := [d1, d2] }
  | _ => none }
def ShaStatesWrongFalsely : Prop := shaStatesRow.holds Tryd.pinned (OpenSpec.ofChange shaStatesWrong)

/-- 'casketlaw2.ShaCuts': WHATEVER THE INPUT: true; the input reads as it did. -/
def shaCutsSpec : ChangeSpec := { name := "shaCuts", fn := fun _ => fun
  | [d] => { results := [.lit (.bool true)], args := [d] }
  | _ => none }
def shaCutsRow : OpenClaim := { program := "ytkagmoaapampgaadoor", sum := "bc8369f5bbaeb402682101a59cbdcb7333e7f5f888f42d24db3fda04d9e912c1", func := "casket/casketlaw2.ShaCuts", spec := "shaCuts", named := ["casket/sha.first", "casket/sha.roots"], apart := false, laid := [("casket/sha.first", laid_casket_sha_first), ("casket/sha.roots", laid_casket_sha_roots)] }
def ShaCutsSaid : Prop := shaCutsRow.holds Tryd.pinned (OpenSpec.ofChange shaCutsSpec)

/-- ITS FALSE NEIGHBOUR: 'it returns false'. Refute it at one input. -/
def shaCutsWrong : ChangeSpec := { name := "shaCuts", fn := fun _ => fun
  | [d] => { results := [.lit (.bool false)], args := [d] }
  | _ => none }
def ShaCutsWrongFalsely : Prop := shaCutsRow.holds Tryd.pinned (OpenSpec.ofChange shaCutsWrong)

/- THE SECOND FORM. 'bulk': how many values and letters a reading holds, each counted each time it is reached (what is shared counts as often as it is met; a slice's spare places count too). A statement '..UptoSaid' is the law's where the arguments, and the package variables that the reading takes, are together of bulk at most 1048576: NARROWER than '..Said'. Prove '..Said' where nothing that the law and all that it calls make is longer than what came in: it says more and counts as full. Else prove '..UptoSaid'. A law counts once. -/
mutual
def uptoBulk {H : Type} : DataW H → Nat
  | .lit (.string bytes) => bytes.length + 1
  | .lit _ => 1
  | .nil => 1
  | .ptr d => uptoBulk d + 1
  | .slice elems spare => uptoBulkAll elems + uptoBulkAll spare + 1
  | .agg parts => uptoBulkAll parts + 1
  | .iface _ d => uptoBulk d + 1
  | .map entries => uptoBulkEntries entries + 1
  | .held _ => 1
def uptoBulkAll {H : Type} : List (DataW H) → Nat
  | [] => 0
  | d :: r => uptoBulk d + uptoBulkAll r
def uptoBulkEntries {H : Type} : List (Lit × DataW H) → Nat
  | [] => 0
  | x :: r => uptoBulkEntry x + uptoBulkEntries r
def uptoBulkEntry {H : Type} : Lit × DataW H → Nat
  | (.string bytes, d) => bytes.length + uptoBulk d + 1
  | (_, d) => uptoBulk d + 1
 end
def uptoSmall : (H : Type) → List (DataW H) → Bool := fun _ ds => decide (uptoBulkAll ds ≤ 1048576)
def OpenSpec.upto (s : _root_.Go.ChangeSpec) : _root_.Go.OpenSpec := { _root_.Go.OpenSpec.ofChange s with cond := some uptoSmall }

/-- 'casketlaw2.ShaSums', WHERE WHAT IT READS IS OF BULK AT MOST 1048576: true; the input reads as it did. -/
def shaSumsUptoRow : OpenClaim := { program := "ytkagmoaapampgaadoor", sum := "bc8369f5bbaeb402682101a59cbdcb7333e7f5f888f42d24db3fda04d9e912c1", func := "casket/casketlaw2.ShaSums", spec := "shaSums", named := ["casket/sha.first", "casket/sha.roots", "casket/casketref2.roots", "casket/casketref2.powers"], apart := false, laid := [("casket/casketref2.roots", laid_casket_casketref2_roots), ("casket/casketref2.powers", laid_casket_casketref2_powers), ("casket/sha.first", laid_casket_sha_first), ("casket/sha.roots", laid_casket_sha_roots)], narrowed := true }
def ShaSumsUptoSaid : Prop := shaSumsUptoRow.holds Tryd.pinned (OpenSpec.upto shaSumsSpec)

/-- 'casketlaw2.ShaKnown', WHERE WHAT IT READS IS OF BULK AT MOST 1048576: true; the input reads as it did. -/
def shaKnownUptoRow : OpenClaim := { program := "ytkagmoaapampgaadoor", sum := "bc8369f5bbaeb402682101a59cbdcb7333e7f5f888f42d24db3fda04d9e912c1", func := "casket/casketlaw2.ShaKnown", spec := "shaKnown", named := ["casket/sha.first", "casket/sha.roots"], apart := false, laid := [("casket/sha.first", laid_casket_sha_first), ("casket/sha.roots", laid_casket_sha_roots)], narrowed := true }
def ShaKnownUptoSaid : Prop := shaKnownUptoRow.holds Tryd.pinned (OpenSpec.upto shaKnownSpec)

/-- 'casketlaw2.ShaHexBack', WHERE WHAT IT READS IS OF BULK AT MOST 1048576: true; the input reads as it did. -/
def shaHexBackUptoRow : OpenClaim := { program := "ytkagmoaapampgaadoor", sum := "bc8369f5bbaeb402682101a59cbdcb7333e7f5f888f42d24db3fda04d9e912c1", func := "casket/casketlaw2.ShaHexBack", spec := "shaHexBack", named := ["casket/sha.first", "casket/sha.roots"], apart := false, laid := [("casket/sha.first", laid_casket_sha_first), ("casket/sha.roots", laid_casket_sha_roots)], narrowed := true }
def ShaHexBackUptoSaid : Prop := shaHexBackUptoRow.holds Tryd.pinned (OpenSpec.upto shaHexBackSpec)

/-- 'casketlaw2.ShaHashers', WHERE WHAT IT READS IS OF BULK AT MOST 1048576: true; the input reads as it did. -/
def shaHashersUptoRow : OpenClaim := { program := "ytkagmoaapampgaadoor", sum := "bc8369f5bbaeb402682101a59cbdcb7333e7f5f888f42d24db3fda04d9e912c1", func := "casket/casketlaw2.ShaHashers", spec := "shaHashers", named := ["casket/sha.first", "casket/casketref2.roots", "casket/casketref2.powers", "casket/sha.roots"], apart := false, laid := [("casket/casketref2.roots", laid_casket_casketref2_roots), ("casket/casketref2.powers", laid_casket_casketref2_powers), ("casket/sha.first", laid_casket_sha_first), ("casket/sha.roots", laid_casket_sha_roots)], narrowed := true }
def ShaHashersUptoSaid : Prop := shaHashersUptoRow.holds Tryd.pinned (OpenSpec.upto shaHashersSpec)

/-- 'casketlaw2.ShaStates', WHERE WHAT IT READS IS OF BULK AT MOST 1048576: true; the input reads as it did. -/
def shaStatesUptoRow : OpenClaim := { program := "ytkagmoaapampgaadoor", sum := "bc8369f5bbaeb402682101a59cbdcb7333e7f5f888f42d24db3fda04d9e912c1", func := "casket/casketlaw2.ShaStates", spec := "shaStates", named := ["casket/sha.first", "casket/sha.roots"], apart := false, laid := [("casket/sha.first", laid_casket_sha_first), ("casket/sha.roots", laid_casket_sha_roots)], narrowed := true }
def ShaStatesUptoSaid : Prop := shaStatesUptoRow.holds Tryd.pinned (OpenSpec.upto shaStatesSpec)

/-- 'casketlaw2.ShaCuts', WHERE WHAT IT READS IS OF BULK AT MOST 1048576: true; the input reads as it did. -/
def shaCutsUptoRow : OpenClaim := { program := "ytkagmoaapampgaadoor", sum := "bc8369f5bbaeb402682101a59cbdcb7333e7f5f888f42d24db3fda04d9e912c1", func := "casket/casketlaw2.ShaCuts", spec := "shaCuts", named := ["casket/sha.first", "casket/sha.roots"], apart := false, laid := [("casket/sha.first", laid_casket_sha_first), ("casket/sha.roots", laid_casket_sha_roots)], narrowed := true }
def ShaCutsUptoSaid : Prop := shaCutsUptoRow.holds Tryd.pinned (OpenSpec.upto shaCutsSpec)

end Rows
end Go.Proofs.YtkagmoaapampgaaDoor
