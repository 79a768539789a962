/-
  NARROWER THAN 'FOR EVERY INPUT', by the rows' own cells (each row's printed sentence says how): LimitsChecks: loops, laid · LimitsPermits: loops, laid · LimitsSets: loops, laid · LimitsSpans: laid · LimitsAlgebra: loops, laid · LimitsSeen: loops, laid · LimitsShown: loops, laid · LimitsLeast: loops, laid · LimitsWitnesses: loops, laid.
  DERIVED. THE GIVEN ROWS OF THIS SEAT. 9 by the template 'for every input the law returns true; each argument reads behind the call as it read before'; 0 by the template 'total and deterministic' (their statements: YtdpbobkcbakpfaaGreatDoorTotals.lean).
  GIVEN WITH THE SEED: the statements are not yours to turn. If you find one false, say at which input.
  Laid BY PROGRAM, IN A SANDBOX (cutbox-rows.mjs): the forced cells as the released guide's own fill.sh prints them over the translation 6324bc3d2bba2409… (all of the seat's roots in one cut). By AI agents, Wed Nov 11 2026. No macro, syntax, notation, axiom, sorry.
-/
import Derived.Test.YtdpbobkcbakpfaaGreatDoorChecked
import GoSem.PinnedTables
import GoSem.Claim
import GoSem.ClaimJoined
import GoSem.ClaimMapViews
import Derived.JoinedTies
import Derived.KernelRfl
namespace Go.Proofs.YtdpbobkcbakpfaaGreatDoor
/- THE CELL 'sum', in the pinned program and in every row, IS THE sha256 OF THE DUMP (.gsa) THAT YtdpbobkcbakpfaaGreatDoorProg.lean LOADS. Nothing in Lean hashes anything: it is a label: what it is worth is what the hold of that sum in a sandbox is worth. -/
noncomputable def Tryz.pinned : Pinned := { name := "ytdpbobkcbakpfaagreatdoor", sum := "6324bc3d2bba24092fc323d050030ab8882f547f9e5779232e9ec25952c25736", checked := Tryz.checked }
namespace Rows
def none {H : Type} : Left H := { results := [], args := [] }

/- WHAT THE LISTED PACKAGE-LEVEL VARIABLES READ AS WHEN THE CALL BEGINS. Each datum BY PROGRAM (the guide's laid-datum.mjs) off the statement by which the dump's own 'gosem.cut.vars' lays the variable. In a bare row this is a premise. The card (YtdpbobkcbakpfaaGreatDoorCards.lean) ties it to the program's text. -/
def laid_unicode_utf8_acceptRanges {H : Type} : DataW H := .agg [.agg [.lit (.int .u8 128), .lit (.int .u8 191)], .agg [.lit (.int .u8 160), .lit (.int .u8 191)], .agg [.lit (.int .u8 128), .lit (.int .u8 159)], .agg [.lit (.int .u8 144), .lit (.int .u8 191)], .agg [.lit (.int .u8 128), .lit (.int .u8 143)], .agg [.lit (.int .u8 0), .lit (.int .u8 0)], .agg [.lit (.int .u8 0), .lit (.int .u8 0)], .agg [.lit (.int .u8 0), .lit (.int .u8 0)], .agg [.lit (.int .u8 0), .lit (.int .u8 0)], .agg [.lit (.int .u8 0), .lit (.int .u8 0)], .agg [.lit (.int .u8 0), .lit (.int .u8 0)], .agg [.lit (.int .u8 0), .lit (.int .u8 0)], .agg [.lit (.int .u8 0), .lit (.int .u8 0)], .agg [.lit (.int .u8 0), .lit (.int .u8 0)], .agg [.lit (.int .u8 0), .lit (.int .u8 0)], .agg [.lit (.int .u8 0), .lit (.int .u8 0)]]
/-- One of Go's own tables, pinned by name: the form's constant. -/
def laid_unicode_utf8_first : DataW Unit := Go.Pinned.utf8First

/-- 'examinerlaw04.LimitsChecks': WHATEVER THE INPUT: true; the input reads as it did. -/
def limitsChecksSpec : ChangeSpec := { name := "limitsChecks", fn := fun _ => fun
  | [d1, d2] => { results := [.lit (.bool true)], args := [d1, d2] }
  | _ => none }
def limitsChecksRow : OpenClaim := { program := "ytdpbobkcbakpfaagreatdoor", sum := "6324bc3d2bba24092fc323d050030ab8882f547f9e5779232e9ec25952c25736", func := "examiner/examinerlaw04.LimitsChecks", spec := "limitsChecks", inPlace := ["internal/bytealg.IndexByteString", "internal/bytealg.IndexString", "internal/bytealg.abigen_runtime_cmpstring"], unfollowed := true, recurses := true, named := ["internal/bytealg.MaxLen", "unicode/utf8.first", "unicode/utf8.acceptRanges"], loops := true, apart := false, laid := [("unicode/utf8.acceptRanges", laid_unicode_utf8_acceptRanges), ("unicode/utf8.first", laid_unicode_utf8_first)] }
def LimitsChecksSaid : Prop := limitsChecksRow.holds Tryz.pinned (OpenSpec.ofChange limitsChecksSpec)

/-- ITS FALSE NEIGHBOUR: 'it returns false'. Refute it at one input. -/
def limitsChecksWrong : ChangeSpec := { name := "limitsChecks", fn := fun _ => fun
  | [d1, d2] => { results := [.lit (.bool false)], args := [d1, d2] }
  | _ => none }
def LimitsChecksWrongFalsely : Prop := limitsChecksRow.holds Tryz.pinned (OpenSpec.ofChange limitsChecksWrong)

/-- 'examinerlaw04.LimitsPermits': WHATEVER THE INPUT: true; the input reads as it did. -/
def limitsPermitsSpec : ChangeSpec := { name := "limitsPermits", fn := fun _ => fun
  | [d1, d2] => { results := [.lit (.bool true)], args := [d1, d2] }
  | _ => none }
def limitsPermitsRow : OpenClaim := { program := "ytdpbobkcbakpfaagreatdoor", sum := "6324bc3d2bba24092fc323d050030ab8882f547f9e5779232e9ec25952c25736", func := "examiner/examinerlaw04.LimitsPermits", spec := "limitsPermits", inPlace := ["internal/bytealg.IndexByteString", "internal/bytealg.IndexString", "internal/bytealg.abigen_runtime_cmpstring"], unfollowed := true, recurses := true, named := ["internal/bytealg.MaxLen", "unicode/utf8.first", "unicode/utf8.acceptRanges"], loops := true, apart := false, laid := [("unicode/utf8.acceptRanges", laid_unicode_utf8_acceptRanges), ("unicode/utf8.first", laid_unicode_utf8_first)] }
def LimitsPermitsSaid : Prop := limitsPermitsRow.holds Tryz.pinned (OpenSpec.ofChange limitsPermitsSpec)

/-- ITS FALSE NEIGHBOUR: 'it returns false'. Refute it at one input. -/
def limitsPermitsWrong : ChangeSpec := { name := "limitsPermits", fn := fun _ => fun
  | [d1, d2] => { results := [.lit (.bool false)], args := [d1, d2] }
  | _ => none }
def LimitsPermitsWrongFalsely : Prop := limitsPermitsRow.holds Tryz.pinned (OpenSpec.ofChange limitsPermitsWrong)

/-- 'examinerlaw04.LimitsSets': WHATEVER THE INPUT: true; the input reads as it did. -/
def limitsSetsSpec : ChangeSpec := { name := "limitsSets", fn := fun _ => fun
  | [d] => { results := [.lit (.bool true)], args := [d] }
  | _ => none }
def limitsSetsRow : OpenClaim := { program := "ytdpbobkcbakpfaagreatdoor", sum := "6324bc3d2bba24092fc323d050030ab8882f547f9e5779232e9ec25952c25736", func := "examiner/examinerlaw04.LimitsSets", spec := "limitsSets", inPlace := ["internal/bytealg.IndexByteString", "internal/bytealg.IndexString", "internal/bytealg.abigen_runtime_cmpstring"], unfollowed := true, recurses := true, named := ["internal/bytealg.MaxLen", "unicode/utf8.first", "unicode/utf8.acceptRanges"], loops := true, apart := false, laid := [("unicode/utf8.acceptRanges", laid_unicode_utf8_acceptRanges), ("unicode/utf8.first", laid_unicode_utf8_first)] }
def LimitsSetsSaid : Prop := limitsSetsRow.holds Tryz.pinned (OpenSpec.ofChange limitsSetsSpec)

/-- ITS FALSE NEIGHBOUR: 'it returns false'. Refute it at one input. -/
def limitsSetsWrong : ChangeSpec := { name := "limitsSets", fn := fun _ => fun
  | [d] => { results := [.lit (.bool false)], args := [d] }
  | _ => none }
def LimitsSetsWrongFalsely : Prop := limitsSetsRow.holds Tryz.pinned (OpenSpec.ofChange limitsSetsWrong)

/-- 'examinerlaw04.LimitsSpans': WHATEVER THE INPUT: true; the input reads as it did. -/
def limitsSpansSpec : ChangeSpec := { name := "limitsSpans", fn := fun _ => fun
  | [d1, d2, d3] => { results := [.lit (.bool true)], args := [d1, d2, d3] }
  | _ => none }
def limitsSpansRow : OpenClaim := { program := "ytdpbobkcbakpfaagreatdoor", sum := "6324bc3d2bba24092fc323d050030ab8882f547f9e5779232e9ec25952c25736", func := "examiner/examinerlaw04.LimitsSpans", spec := "limitsSpans", inPlace := ["internal/bytealg.IndexByteString", "internal/bytealg.IndexString", "internal/bytealg.abigen_runtime_cmpstring"], unfollowed := true, recurses := true, named := ["internal/bytealg.MaxLen", "unicode/utf8.first", "unicode/utf8.acceptRanges"], apart := false, laid := [("unicode/utf8.acceptRanges", laid_unicode_utf8_acceptRanges), ("unicode/utf8.first", laid_unicode_utf8_first)] }
def LimitsSpansSaid : Prop := limitsSpansRow.holds Tryz.pinned (OpenSpec.ofChange limitsSpansSpec)

/-- ITS FALSE NEIGHBOUR: 'it returns false'. Refute it at one input. -/
def limitsSpansWrong : ChangeSpec := { name := "limitsSpans", fn := fun _ => fun
  | [d1, d2, d3] => { results := [.lit (.bool false)], args := [d1, d2, d3] }
  | _ => none }
def LimitsSpansWrongFalsely : Prop := limitsSpansRow.holds Tryz.pinned (OpenSpec.ofChange limitsSpansWrong)

/-- 'examinerlaw04.LimitsAlgebra': WHATEVER THE INPUT: true; the input reads as it did. -/
def limitsAlgebraSpec : ChangeSpec := { name := "limitsAlgebra", fn := fun _ => fun
  | [d1, d2, d3] => { results := [.lit (.bool true)], args := [d1, d2, d3] }
  | _ => none }
def limitsAlgebraRow : OpenClaim := { program := "ytdpbobkcbakpfaagreatdoor", sum := "6324bc3d2bba24092fc323d050030ab8882f547f9e5779232e9ec25952c25736", func := "examiner/examinerlaw04.LimitsAlgebra", spec := "limitsAlgebra", inPlace := ["internal/bytealg.IndexByteString", "internal/bytealg.IndexString", "internal/bytealg.abigen_runtime_cmpstring"], unfollowed := true, recurses := true, named := ["internal/bytealg.MaxLen", "unicode/utf8.first", "unicode/utf8.acceptRanges"], loops := true, apart := false, laid := [("unicode/utf8.acceptRanges", laid_unicode_utf8_acceptRanges), ("unicode/utf8.first", laid_unicode_utf8_first)] }
def LimitsAlgebraSaid : Prop := limitsAlgebraRow.holds Tryz.pinned (OpenSpec.ofChange limitsAlgebraSpec)

/-- ITS FALSE NEIGHBOUR: 'it returns false'. Refute it at one input. -/
def limitsAlgebraWrong : ChangeSpec := { name := "limitsAlgebra", fn := fun _ => fun
  | [d1, d2, d3] => { results := [.lit (.bool false)], args := [d1, d2, d3] }
  | _ => none }
def LimitsAlgebraWrongFalsely : Prop := limitsAlgebraRow.holds Tryz.pinned (OpenSpec.ofChange limitsAlgebraWrong)

/-- 'examinerlaw04.LimitsSeen': WHATEVER THE INPUT: true; the input reads as it did. -/
def limitsSeenSpec : ChangeSpec := { name := "limitsSeen", fn := fun _ => fun
  | [d] => { results := [.lit (.bool true)], args := [d] }
  | _ => none }
def limitsSeenRow : OpenClaim := { program := "ytdpbobkcbakpfaagreatdoor", sum := "6324bc3d2bba24092fc323d050030ab8882f547f9e5779232e9ec25952c25736", func := "examiner/examinerlaw04.LimitsSeen", spec := "limitsSeen", inPlace := ["internal/bytealg.IndexByteString", "internal/bytealg.IndexString", "internal/bytealg.abigen_runtime_cmpstring"], unfollowed := true, recurses := true, named := ["internal/bytealg.MaxLen", "unicode/utf8.first", "unicode/utf8.acceptRanges"], loops := true, apart := false, laid := [("unicode/utf8.acceptRanges", laid_unicode_utf8_acceptRanges), ("unicode/utf8.first", laid_unicode_utf8_first)] }
def LimitsSeenSaid : Prop := limitsSeenRow.holds Tryz.pinned (OpenSpec.ofChange limitsSeenSpec)

/-- ITS FALSE NEIGHBOUR: 'it returns false'. Refute it at one input. -/
def limitsSeenWrong : ChangeSpec := { name := "limitsSeen", fn := fun _ => fun
  | [d] => { results := [.lit (.bool false)], args := [d] }
  | _ => none }
def LimitsSeenWrongFalsely : Prop := limitsSeenRow.holds Tryz.pinned (OpenSpec.ofChange limitsSeenWrong)

/-- 'examinerlaw04.LimitsShown': WHATEVER THE INPUT: true; the input reads as it did. -/
def limitsShownSpec : ChangeSpec := { name := "limitsShown", fn := fun _ => fun
  | [d1, d2] => { results := [.lit (.bool true)], args := [d1, d2] }
  | _ => none }
def limitsShownRow : OpenClaim := { program := "ytdpbobkcbakpfaagreatdoor", sum := "6324bc3d2bba24092fc323d050030ab8882f547f9e5779232e9ec25952c25736", func := "examiner/examinerlaw04.LimitsShown", spec := "limitsShown", inPlace := ["internal/bytealg.IndexByteString", "internal/bytealg.IndexString", "internal/bytealg.abigen_runtime_cmpstring"], unfollowed := true, recurses := true, named := ["internal/bytealg.MaxLen", "unicode/utf8.first", "unicode/utf8.acceptRanges"], loops := true, apart := false, laid := [("unicode/utf8.acceptRanges", laid_unicode_utf8_acceptRanges), ("unicode/utf8.first", laid_unicode_utf8_first)] }
def LimitsShownSaid : Prop := limitsShownRow.holds Tryz.pinned (OpenSpec.ofChange limitsShownSpec)

/-- ITS FALSE NEIGHBOUR: 'it returns false'. Refute it at one input. -/
def limitsShownWrong : ChangeSpec := { name := "limitsShown", fn := fun _ => fun
  | [d1, d2] => { results := [.lit (.bool false)], args := [d1, d2] }
  | _ => none }
def LimitsShownWrongFalsely : Prop := limitsShownRow.holds Tryz.pinned (OpenSpec.ofChange limitsShownWrong)

/-- 'examinerlaw04.LimitsLeast': WHATEVER THE INPUT: true; the input reads as it did. -/
def limitsLeastSpec : ChangeSpec := { name := "limitsLeast", fn := fun _ => fun
  | [d1, d2] => { results := [.lit (.bool true)], args := [d1, d2] }
  | _ => none }
def limitsLeastRow : OpenClaim := { program := "ytdpbobkcbakpfaagreatdoor", sum := "6324bc3d2bba24092fc323d050030ab8882f547f9e5779232e9ec25952c25736", func := "examiner/examinerlaw04.LimitsLeast", spec := "limitsLeast", inPlace := ["internal/bytealg.IndexByteString", "internal/bytealg.IndexString", "internal/bytealg.abigen_runtime_cmpstring"], unfollowed := true, recurses := true, named := ["internal/bytealg.MaxLen", "unicode/utf8.first", "unicode/utf8.acceptRanges"], loops := true, apart := false, laid := [("unicode/utf8.acceptRanges", laid_unicode_utf8_acceptRanges), ("unicode/utf8.first", laid_unicode_utf8_first)] }
def LimitsLeastSaid : Prop := limitsLeastRow.holds Tryz.pinned (OpenSpec.ofChange limitsLeastSpec)

/-- ITS FALSE NEIGHBOUR: 'it returns false'. Refute it at one input. -/
def limitsLeastWrong : ChangeSpec := { name := "limitsLeast", fn := fun _ => fun
  | [d1, d2] => { results := [.lit (.bool false)], args := [d1, d2] }
  | _ => none }
def LimitsLeastWrongFalsely : Prop := limitsLeastRow.holds Tryz.pinned (OpenSpec.ofChange limitsLeastWrong)

/-- 'examinerlaw04.LimitsWitnesses': WHATEVER THE INPUT: true; the input reads as it did. -/
def limitsWitnessesSpec : ChangeSpec := { name := "limitsWitnesses", fn := fun _ => fun
  | [d1, d2] => { results := [.lit (.bool true)], args := [d1, d2] }
  | _ => none }
def limitsWitnessesRow : OpenClaim := { program := "ytdpbobkcbakpfaagreatdoor", sum := "6324bc3d2bba24092fc323d050030ab8882f547f9e5779232e9ec25952c25736", func := "examiner/examinerlaw04.LimitsWitnesses", spec := "limitsWitnesses", inPlace := ["internal/bytealg.IndexByteString", "internal/bytealg.IndexString", "internal/bytealg.abigen_runtime_cmpstring"], unfollowed := true, recurses := true, named := ["internal/bytealg.MaxLen", "unicode/utf8.first", "unicode/utf8.acceptRanges"], loops := true, apart := false, laid := [("unicode/utf8.acceptRanges", laid_unicode_utf8_acceptRanges), ("unicode/utf8.first", laid_unicode_utf8_first)] }
def LimitsWitnessesSaid : Prop := limitsWitnessesRow.holds Tryz.pinned (OpenSpec.ofChange limitsWitnessesSpec)

/-- ITS FALSE NEIGHBOUR: 'it returns false'. Refute it at one input. -/
def limitsWitnessesWrong : ChangeSpec := { name := "limitsWitnesses", fn := fun _ => fun
  | [d1, d2] => { results := [.lit (.bool false)], args := [d1, d2] }
  | _ => none }
def LimitsWitnessesWrongFalsely : Prop := limitsWitnessesRow.holds Tryz.pinned (OpenSpec.ofChange limitsWitnessesWrong)

/- THE SECOND FORM. 'bulk': how many values and letters a reading holds, each counted each time it is reached (what is shared counts as often as it is met; a slice's spare places count too). A statement '..UptoSaid' is the law's where the arguments, and the package variables that the reading takes, are together of bulk at most 1048576: NARROWER than '..Said'. Prove '..Said' where nothing that the law and all that it calls make is longer than what came in: it says more and counts as full. Else prove '..UptoSaid'. A law counts once. -/
mutual
def uptoBulk {H : Type} : DataW H → Nat
  | .lit (.string bytes) => bytes.length + 1
  | .lit _ => 1
  | .nil => 1
  | .ptr d => uptoBulk d + 1
  | .slice elems spare => uptoBulkAll elems + uptoBulkAll spare + 1
  | .agg parts => uptoBulkAll parts + 1
  | .iface _ d => uptoBulk d + 1
  | .map entries => uptoBulkEntries entries + 1
  | .held _ => 1
def uptoBulkAll {H : Type} : List (DataW H) → Nat
  | [] => 0
  | d :: r => uptoBulk d + uptoBulkAll r
def uptoBulkEntries {H : Type} : List (Lit × DataW H) → Nat
  | [] => 0
  | x :: r => uptoBulkEntry x + uptoBulkEntries r
def uptoBulkEntry {H : Type} : Lit × DataW H → Nat
  | (.string bytes, d) => bytes.length + uptoBulk d + 1
  | (_, d) => uptoBulk d + 1
 end
def uptoSmall : (H : Type) → List (DataW H) → Bool := fun _ ds => decide (uptoBulkAll ds ≤ 1048576)
def OpenSpec.upto (s : _root_.Go.ChangeSpec) : _root_.Go.OpenSpec := { _root_.Go.OpenSpec.ofChange s with cond := some uptoSmall }

/-- 'examinerlaw04.LimitsChecks', WHERE WHAT IT READS IS OF BULK AT MOST 1048576: true; the input reads as it did. -/
def limitsChecksUptoRow : OpenClaim := { program := "ytdpbobkcbakpfaagreatdoor", sum := "6324bc3d2bba24092fc323d050030ab8882f547f9e5779232e9ec25952c25736", func := "examiner/examinerlaw04.LimitsChecks", spec := "limitsChecks", inPlace := ["internal/bytealg.IndexByteString", "internal/bytealg.IndexString", "internal/bytealg.abigen_runtime_cmpstring"], unfollowed := true, recurses := true, named := ["internal/bytealg.MaxLen", "unicode/utf8.first", "unicode/utf8.acceptRanges"], loops := true, apart := false, laid := [("unicode/utf8.acceptRanges", laid_unicode_utf8_acceptRanges), ("unicode/utf8.first", laid_unicode_utf8_first)], narrowed := true }
def LimitsChecksUptoSaid : Prop := limitsChecksUptoRow.holds Tryz.pinned (OpenSpec.upto limitsChecksSpec)

/-- 'examinerlaw04.LimitsPermits', WHERE WHAT IT READS IS OF BULK AT MOST 1048576: true; the input reads as it did. -/
def limitsPermitsUptoRow : OpenClaim := { program := "ytdpbobkcbakpfaagreatdoor", sum := "6324bc3d2bba24092fc323d050030ab8882f547f9e5779232e9ec25952c25736", func := "examiner/examinerlaw04.LimitsPermits", spec := "limitsPermits", inPlace := ["internal/bytealg.IndexByteString", "internal/bytealg.IndexString", "internal/bytealg.abigen_runtime_cmpstring"], unfollowed := true, recurses := true, named := ["internal/bytealg.MaxLen", "unicode/utf8.first", "unicode/utf8.acceptRanges"], loops := true, apart := false, laid := [("unicode/utf8.acceptRanges", laid_unicode_utf8_acceptRanges), ("unicode/utf8.first", laid_unicode_utf8_first)], narrowed := true }
def LimitsPermitsUptoSaid : Prop := limitsPermitsUptoRow.holds Tryz.pinned (OpenSpec.upto limitsPermitsSpec)

/-- 'examinerlaw04.LimitsSets', WHERE WHAT IT READS IS OF BULK AT MOST 1048576: true; the input reads as it did. -/
def limitsSetsUptoRow : OpenClaim := { program := "ytdpbobkcbakpfaagreatdoor", sum := "6324bc3d2bba24092fc323d050030ab8882f547f9e5779232e9ec25952c25736", func := "examiner/examinerlaw04.LimitsSets", spec := "limitsSets", inPlace := ["internal/bytealg.IndexByteString", "internal/bytealg.IndexString", "internal/bytealg.abigen_runtime_cmpstring"], unfollowed := true, recurses := true, named := ["internal/bytealg.MaxLen", "unicode/utf8.first", "unicode/utf8.acceptRanges"], loops := true, apart := false, laid := [("unicode/utf8.acceptRanges", laid_unicode_utf8_acceptRanges), ("unicode/utf8.first", laid_unicode_utf8_first)], narrowed := true }
def LimitsSetsUptoSaid : Prop := limitsSetsUptoRow.holds Tryz.pinned (OpenSpec.upto limitsSetsSpec)

/-- 'examinerlaw04.LimitsSpans', WHERE WHAT IT READS IS OF BULK AT MOST 1048576: true; the input reads as it did. -/
def limitsSpansUptoRow : OpenClaim := { program := "ytdpbobkcbakpfaagreatdoor", sum := "6324bc3d2bba24092fc323d050030ab8882f547f9e5779232e9ec25952c25736", func := "examiner/examinerlaw04.LimitsSpans", spec := "limitsSpans", inPlace := ["internal/bytealg.IndexByteString", "internal/bytealg.IndexString", "internal/bytealg.abigen_runtime_cmpstring"], unfollowed := true, recurses := true, named := ["internal/bytealg.MaxLen", "unicode/utf8.first", "unicode/utf8.acceptRanges"], apart := false, laid := [("unicode/utf8.acceptRanges", laid_unicode_utf8_acceptRanges), ("unicode/utf8.first", laid_unicode_utf8_first)], narrowed := true }
def LimitsSpansUptoSaid : Prop := limitsSpansUptoRow.holds Tryz.pinned (OpenSpec.upto limitsSpansSpec)

/-- 'examinerlaw04.LimitsAlgebra', WHERE WHAT IT READS IS OF BULK AT MOST 1048576: true; the input reads as it did. -/
def limitsAlgebraUptoRow : OpenClaim := { program := "ytdpbobkcbakpfaagreatdoor", sum := "6324bc3d2bba24092fc323d050030ab8882f547f9e5779232e9ec25952c25736", func := "examiner/examinerlaw04.LimitsAlgebra", spec := "limitsAlgebra", inPlace := ["internal/bytealg.IndexByteString", "internal/bytealg.IndexString", "internal/bytealg.abigen_runtime_cmpstring"], unfollowed := true, recurses := true, named := ["internal/bytealg.MaxLen", "unicode/utf8.first", "unicode/utf8.acceptRanges"], loops := true, apart := false, laid := [("unicode/utf8.acceptRanges", laid_unicode_utf8_acceptRanges), ("unicode/utf8.first", laid_unicode_utf8_first)], narrowed := true }
def LimitsAlgebraUptoSaid : Prop := limitsAlgebraUptoRow.holds Tryz.pinned (OpenSpec.upto limitsAlgebraSpec)

/-- 'examinerlaw04.LimitsSeen', WHERE WHAT IT READS IS OF BULK AT MOST 1048576: true; the input reads as it did. -/
def limitsSeenUptoRow : OpenClaim := { program := "ytdpbobkcbakpfaagreatdoor", sum := "6324bc3d2bba24092fc323d050030ab8882f547f9e5779232e9ec25952c25736", func := "examiner/examinerlaw04.LimitsSeen", spec := "limitsSeen", inPlace := ["internal/bytealg.IndexByteString", "internal/bytealg.IndexString", "internal/bytealg.abigen_runtime_cmpstring"], unfollowed := true, recurses := true, named := ["internal/bytealg.MaxLen", "unicode/utf8.first", "unicode/utf8.acceptRanges"], loops := true, apart := false, laid := [("unicode/utf8.acceptRanges", laid_unicode_utf8_acceptRanges), ("unicode/utf8.first", laid_unicode_utf8_first)], narrowed := true }
def LimitsSeenUptoSaid : Prop := limitsSeenUptoRow.holds Tryz.pinned (OpenSpec.upto limitsSeenSpec)

/-- 'examinerlaw04.LimitsShown', WHERE WHAT IT READS IS OF BULK AT MOST 1048576: true; the input reads as it did. -/
def limitsShownUptoRow : OpenClaim := { program := "ytdpbobkcbakpfaagreatdoor", sum := "6324bc3d2bba24092fc323d050030ab8882f547f9e5779232e9ec25952c25736", func := "examiner/examinerlaw04.LimitsShown", spec := "limitsShown", inPlace := ["internal/bytealg.IndexByteString", "internal/bytealg.IndexString", "internal/bytealg.abigen_runtime_cmpstring"], unfollowed := true, recurses := true, named := ["internal/bytealg.MaxLen", "unicode/utf8.first", "unicode/utf8.acceptRanges"], loops := true, apart := false, laid := [("unicode/utf8.acceptRanges", laid_unicode_utf8_acceptRanges), ("unicode/utf8.first", laid_unicode_utf8_first)], narrowed := true }
def LimitsShownUptoSaid : Prop := limitsShownUptoRow.holds Tryz.pinned (OpenSpec.upto limitsShownSpec)

/-- 'examinerlaw04.LimitsLeast', WHERE WHAT IT READS IS OF BULK AT MOST 1048576: true; the input reads as it did. -/
def limitsLeastUptoRow : OpenClaim := { program := "ytdpbobkcbakpfaagreatdoor", sum := "6324bc3d2bba24092fc323d050030ab8882f547f9e5779232e9ec25952c25736", func := "examiner/examinerlaw04.LimitsLeast", spec := "limitsLeast", inPlace := ["internal/bytealg.IndexByteString", "internal/bytealg.IndexString", "internal/bytealg.abigen_runtime_cmpstring"], unfollowed := true, recurses := true, named := ["internal/bytealg.MaxLen", "unicode/utf8.first", "unicode/utf8.acceptRanges"], loops := true, apart := false, laid := [("unicode/utf8.acceptRanges", laid_unicode_utf8_acceptRanges), ("unicode/utf8.first", laid_unicode_utf8_first)], narrowed := true }
def LimitsLeastUptoSaid : Prop := limitsLeastUptoRow.holds Tryz.pinned (OpenSpec.upto limitsLeastSpec)

/-- 'examinerlaw04.LimitsWitnesses', WHERE WHAT IT READS IS OF BULK AT MOST 1048576: true; the input reads as it did. -/
def limitsWitnessesUptoRow : OpenClaim := { program := "ytdpbobkcbakpfaagreatdoor", sum := "6324bc3d2bba24092fc323d050030ab8882f547f9e5779232e9ec25952c25736", func := "examiner/examinerlaw04.LimitsWitnesses", spec := "limitsWitnesses", inPlace := ["internal/bytealg.IndexByteString", "internal/bytealg.IndexString", "internal/bytealg.abigen_runtime_cmpstring"], unfollowed := true, recurses := true, named := ["internal/bytealg.MaxLen", "unicode/utf8.first", "unicode/utf8.acceptRanges"], loops := true, apart := false, laid := [("unicode/utf8.acceptRanges", laid_unicode_utf8_acceptRanges), ("unicode/utf8.first", laid_unicode_utf8_first)], narrowed := true }
def LimitsWitnessesUptoSaid : Prop := limitsWitnessesUptoRow.holds Tryz.pinned (OpenSpec.upto limitsWitnessesSpec)

end Rows
end Go.Proofs.YtdpbobkcbakpfaaGreatDoor
