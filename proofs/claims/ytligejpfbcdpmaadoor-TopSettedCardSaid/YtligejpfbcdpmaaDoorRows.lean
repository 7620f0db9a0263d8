/-
  NARROWER THAN 'FOR EVERY INPUT', by the rows' own cells (each row's printed sentence says how): TopSetted: laid · TopEnded: laid · TopPlanned: laid · TopTrimmed: laid · TopWorded: laid · TopTried: laid · TopPaced: laid.
  DERIVED. THE GIVEN ROWS OF THIS SEAT. 7 by the template 'for every input the law returns true; each argument reads behind the call as it read before'; 0 by the template 'total and deterministic' (their statements: YtligejpfbcdpmaaDoorTotals.lean).
  GIVEN WITH THE SEED: the statements are not yours to turn. If you find one false, say at which input.
  Laid BY PROGRAM, IN A SANDBOX (cutbox-rows.mjs): the forced cells as the released guide's own fill.sh prints them over the translation c489bfe1521f68d1… (all of the seat's roots in one cut). By AI agents, Wed Nov 11 2026. No macro, syntax, notation, axiom, sorry.
-/
import Derived.Test.YtligejpfbcdpmaaDoorChecked
import GoSem.PinnedTables
import GoSem.Claim
import GoSem.ClaimJoined
import GoSem.ClaimMapViews
import Derived.JoinedTies
import Derived.KernelRfl
namespace Go.Proofs.YtligejpfbcdpmaaDoor
/- THE CELL 'sum', in the pinned program and in every row, IS THE sha256 OF THE DUMP (.gsa) THAT YtligejpfbcdpmaaDoorProg.lean LOADS. Nothing in Lean hashes anything: it is a label: what it is worth is what the hold of that sum in a sandbox is worth. -/
noncomputable def Tryd.pinned : Pinned := { name := "ytligejpfbcdpmaadoor", sum := "c489bfe1521f68d1742d7cef8faaaa7386d7c46790f909d9dbb24a8d8eb9641b", checked := Tryd.checked }
namespace Rows
def none {H : Type} : Left H := { results := [], args := [] }

/- WHAT THE LISTED PACKAGE-LEVEL VARIABLES READ AS WHEN THE CALL BEGINS. Each datum BY PROGRAM (the guide's laid-datum.mjs) off the statement by which the dump's own 'gosem.cut.vars' lays the variable. In a bare row this is a premise. The card (YtligejpfbcdpmaaDoorCards.lean) ties it to the program's text. -/
def laid_math_bits_deBruijn32tab {H : Type} : DataW H := .agg [.lit (.int .u8 0), .lit (.int .u8 1), .lit (.int .u8 28), .lit (.int .u8 2), .lit (.int .u8 29), .lit (.int .u8 14), .lit (.int .u8 24), .lit (.int .u8 3), .lit (.int .u8 30), .lit (.int .u8 22), .lit (.int .u8 20), .lit (.int .u8 15), .lit (.int .u8 25), .lit (.int .u8 17), .lit (.int .u8 4), .lit (.int .u8 8), .lit (.int .u8 31), .lit (.int .u8 27), .lit (.int .u8 13), .lit (.int .u8 23), .lit (.int .u8 21), .lit (.int .u8 19), .lit (.int .u8 16), .lit (.int .u8 7), .lit (.int .u8 26), .lit (.int .u8 12), .lit (.int .u8 18), .lit (.int .u8 6), .lit (.int .u8 11), .lit (.int .u8 5), .lit (.int .u8 10), .lit (.int .u8 9)]
def laid_math_bits_deBruijn64tab {H : Type} : DataW H := .agg [.lit (.int .u8 0), .lit (.int .u8 1), .lit (.int .u8 56), .lit (.int .u8 2), .lit (.int .u8 57), .lit (.int .u8 49), .lit (.int .u8 28), .lit (.int .u8 3), .lit (.int .u8 61), .lit (.int .u8 58), .lit (.int .u8 42), .lit (.int .u8 50), .lit (.int .u8 38), .lit (.int .u8 29), .lit (.int .u8 17), .lit (.int .u8 4), .lit (.int .u8 62), .lit (.int .u8 47), .lit (.int .u8 59), .lit (.int .u8 36), .lit (.int .u8 45), .lit (.int .u8 43), .lit (.int .u8 51), .lit (.int .u8 22), .lit (.int .u8 53), .lit (.int .u8 39), .lit (.int .u8 33), .lit (.int .u8 30), .lit (.int .u8 24), .lit (.int .u8 18), .lit (.int .u8 12), .lit (.int .u8 5), .lit (.int .u8 63), .lit (.int .u8 55), .lit (.int .u8 48), .lit (.int .u8 27), .lit (.int .u8 60), .lit (.int .u8 41), .lit (.int .u8 37), .lit (.int .u8 16), .lit (.int .u8 46), .lit (.int .u8 35), .lit (.int .u8 44), .lit (.int .u8 21), .lit (.int .u8 52), .lit (.int .u8 32), .lit (.int .u8 23), .lit (.int .u8 11), .lit (.int .u8 54), .lit (.int .u8 26), .lit (.int .u8 40), .lit (.int .u8 15), .lit (.int .u8 34), .lit (.int .u8 20), .lit (.int .u8 31), .lit (.int .u8 10), .lit (.int .u8 25), .lit (.int .u8 14), .lit (.int .u8 19), .lit (.int .u8 9), .lit (.int .u8 13), .lit (.int .u8 8), .lit (.int .u8 7), .lit (.int .u8 6)]
def laid_internal_strconv_uint64pow10 {H : Type} : DataW H := .agg [.lit (.int .u64 1), .lit (.int .u64 10), .lit (.int .u64 100), .lit (.int .u64 1000), .lit (.int .u64 10000), .lit (.int .u64 100000), .lit (.int .u64 1000000), .lit (.int .u64 10000000), .lit (.int .u64 100000000), .lit (.int .u64 1000000000), .lit (.int .u64 10000000000), .lit (.int .u64 100000000000), .lit (.int .u64 1000000000000), .lit (.int .u64 10000000000000), .lit (.int .u64 100000000000000), .lit (.int .u64 1000000000000000), .lit (.int .u64 10000000000000000), .lit (.int .u64 100000000000000000), .lit (.int .u64 1000000000000000000), .lit (.int .u64 10000000000000000000)]
def laid_dovetail_api_ErrArg {H : Type} : DataW H := .iface "*errors.errorString" (.ptr (.agg [.lit (.string [100, 111, 118, 101, 116, 97, 105, 108, 58, 32, 97, 114, 103, 117, 109, 101, 110, 116])]))
def laid_dovetail_api_ErrBounds {H : Type} : DataW H := .iface "*errors.errorString" (.ptr (.agg [.lit (.string [100, 111, 118, 101, 116, 97, 105, 108, 58, 32, 98, 111, 117, 110, 100, 115])]))
def laid_dovetail_api_ErrName {H : Type} : DataW H := .iface "*errors.errorString" (.ptr (.agg [.lit (.string [100, 111, 118, 101, 116, 97, 105, 108, 58, 32, 110, 97, 109, 101])]))
def laid_dovetail_api_ErrNone {H : Type} : DataW H := .iface "*errors.errorString" (.ptr (.agg [.lit (.string [100, 111, 118, 101, 116, 97, 105, 108, 58, 32, 110, 111, 110, 101])]))
def laid_errors_errorType {H : Type} : DataW H := .iface "internal/reflectlite.rtype" (.agg [.ptr (.lit (.string [101, 114, 114, 111, 114]))])
def laid_dovetail_api_ErrSyntax {H : Type} : DataW H := .iface "*errors.errorString" (.ptr (.agg [.lit (.string [100, 111, 118, 101, 116, 97, 105, 108, 58, 32, 115, 121, 110, 116, 97, 120])]))
def laid_dovetail_api_ErrCut {H : Type} : DataW H := .iface "*errors.errorString" (.ptr (.agg [.lit (.string [100, 111, 118, 101, 116, 97, 105, 108, 58, 32, 99, 117, 116])]))
def laid_dovetail_api_ErrPlan {H : Type} : DataW H := .iface "*errors.errorString" (.ptr (.agg [.lit (.string [100, 111, 118, 101, 116, 97, 105, 108, 58, 32, 112, 108, 97, 110])]))
def laid_dovetail_api_ErrLong {H : Type} : DataW H := .iface "*errors.errorString" (.ptr (.agg [.lit (.string [100, 111, 118, 101, 116, 97, 105, 108, 58, 32, 108, 111, 110, 103])]))
def laid_unicode_utf8_acceptRanges {H : Type} : DataW H := .agg [.agg [.lit (.int .u8 128), .lit (.int .u8 191)], .agg [.lit (.int .u8 160), .lit (.int .u8 191)], .agg [.lit (.int .u8 128), .lit (.int .u8 159)], .agg [.lit (.int .u8 144), .lit (.int .u8 191)], .agg [.lit (.int .u8 128), .lit (.int .u8 143)], .agg [.lit (.int .u8 0), .lit (.int .u8 0)], .agg [.lit (.int .u8 0), .lit (.int .u8 0)], .agg [.lit (.int .u8 0), .lit (.int .u8 0)], .agg [.lit (.int .u8 0), .lit (.int .u8 0)], .agg [.lit (.int .u8 0), .lit (.int .u8 0)], .agg [.lit (.int .u8 0), .lit (.int .u8 0)], .agg [.lit (.int .u8 0), .lit (.int .u8 0)], .agg [.lit (.int .u8 0), .lit (.int .u8 0)], .agg [.lit (.int .u8 0), .lit (.int .u8 0)], .agg [.lit (.int .u8 0), .lit (.int .u8 0)], .agg [.lit (.int .u8 0), .lit (.int .u8 0)]]
/-- One of Go's own tables, pinned by name: the form's constant. -/
def laid_unicode_utf8_first : DataW Unit := Go.Pinned.utf8First

/-- 'dovetailtop.TopSetted': WHATEVER THE INPUT: true; the input reads as it did. -/
def topSettedSpec : ChangeSpec := { name := "topSetted", fn := fun _ => fun
  | [d] => { results := [.lit (.bool true)], args := [d] }
  | _ => none }
def topSettedRow : OpenClaim := { program := "ytligejpfbcdpmaadoor", sum := "c489bfe1521f68d1742d7cef8faaaa7386d7c46790f909d9dbb24a8d8eb9641b", func := "dovetail/dovetailtop.TopSetted", spec := "topSetted", inPlace := ["internal/abi.NoEscape", "internal/bytealg.MakeNoZero"], unfollowed := true, recurses := true, named := ["math/bits.deBruijn64tab", "internal/strconv.uint64pow10", "math/bits.deBruijn32tab"], plainKeys := false, apart := false, laid := [("math/bits.deBruijn32tab", laid_math_bits_deBruijn32tab), ("math/bits.deBruijn64tab", laid_math_bits_deBruijn64tab), ("internal/strconv.uint64pow10", laid_internal_strconv_uint64pow10)] }
def TopSettedSaid : Prop := topSettedRow.holds Tryd.pinned (OpenSpec.ofChange topSettedSpec)

/-- ITS FALSE NEIGHBOUR: 'it returns false'. Refute it at one input. -/
def topSettedWrong : ChangeSpec := { name := "topSetted", fn := fun _ => fun
  | [d] => { results := [.lit (.bool false)], args := [d] }
  | _ => none }
def TopSettedWrongFalsely : Prop := topSettedRow.holds Tryd.pinned (OpenSpec.ofChange topSettedWrong)

/-- 'dovetailtop.TopEnded': WHATEVER THE INPUT: true; the input reads as it did. -/
def topEndedSpec : ChangeSpec := { name := "topEnded", fn := fun _ => fun
  | [d] => { results := [.lit (.bool true)], args := [d] }
  | _ => none }
def topEndedRow : OpenClaim := { program := "ytligejpfbcdpmaadoor", sum := "c489bfe1521f68d1742d7cef8faaaa7386d7c46790f909d9dbb24a8d8eb9641b", func := "dovetail/dovetailtop.TopEnded", spec := "topEnded", inPlace := ["internal/reflectlite.TypeOf"], unfollowed := true, recurses := true, named := ["dovetail/api.ErrNone", "dovetail/api.ErrArg", "internal/strconv.uint64pow10", "math/bits.deBruijn32tab", "math/bits.deBruijn64tab", "dovetail/api.ErrBounds", "dovetail/api.ErrName"], plainKeys := false, apart := false, laid := [("math/bits.deBruijn32tab", laid_math_bits_deBruijn32tab), ("math/bits.deBruijn64tab", laid_math_bits_deBruijn64tab), ("internal/strconv.uint64pow10", laid_internal_strconv_uint64pow10), ("dovetail/api.ErrArg", laid_dovetail_api_ErrArg), ("dovetail/api.ErrBounds", laid_dovetail_api_ErrBounds), ("dovetail/api.ErrName", laid_dovetail_api_ErrName), ("dovetail/api.ErrNone", laid_dovetail_api_ErrNone)] }
def TopEndedSaid : Prop := topEndedRow.holds Tryd.pinned (OpenSpec.ofChange topEndedSpec)

/-- ITS FALSE NEIGHBOUR: 'it returns false'. Refute it at one input. -/
def topEndedWrong : ChangeSpec := { name := "topEnded", fn := fun _ => fun
  | [d] => { results := [.lit (.bool false)], args := [d] }
  | _ => none }
def TopEndedWrongFalsely : Prop := topEndedRow.holds Tryd.pinned (OpenSpec.ofChange topEndedWrong)

/-- 'dovetailtop.TopPlanned': WHATEVER THE INPUT: true; the input reads as it did. -/
def topPlannedSpec : ChangeSpec := { name := "topPlanned", fn := fun _ => fun
  | [d] => { results := [.lit (.bool true)], args := [d] }
  | _ => none }
def topPlannedRow : OpenClaim := { program := "ytligejpfbcdpmaadoor", sum := "c489bfe1521f68d1742d7cef8faaaa7386d7c46790f909d9dbb24a8d8eb9641b", func := "dovetail/dovetailtop.TopPlanned", spec := "topPlanned", inPlace := ["internal/reflectlite.TypeOf", "internal/reflectlite.ValueOf", "(internal/reflectlite.Value).Type", "(internal/reflectlite.Value).IsNil", "(internal/reflectlite.Value).Elem", "(internal/reflectlite.Value).Set"], unfollowed := true, recurses := true, named := ["dovetail/api.ErrPlan", "dovetail/api.ErrSyntax", "dovetail/api.ErrCut", "internal/strconv.uint64pow10", "math/bits.deBruijn32tab", "math/bits.deBruijn64tab", "dovetail/api.ErrArg", "errors.errorType"], plainKeys := false, apart := false, laid := [("math/bits.deBruijn32tab", laid_math_bits_deBruijn32tab), ("math/bits.deBruijn64tab", laid_math_bits_deBruijn64tab), ("internal/strconv.uint64pow10", laid_internal_strconv_uint64pow10), ("errors.errorType", laid_errors_errorType), ("dovetail/api.ErrArg", laid_dovetail_api_ErrArg), ("dovetail/api.ErrSyntax", laid_dovetail_api_ErrSyntax), ("dovetail/api.ErrCut", laid_dovetail_api_ErrCut), ("dovetail/api.ErrPlan", laid_dovetail_api_ErrPlan)] }
def TopPlannedSaid : Prop := topPlannedRow.holds Tryd.pinned (OpenSpec.ofChange topPlannedSpec)

/-- ITS FALSE NEIGHBOUR: 'it returns false'. Refute it at one input. -/
def topPlannedWrong : ChangeSpec := { name := "topPlanned", fn := fun _ => fun
  | [d] => { results := [.lit (.bool false)], args := [d] }
  | _ => none }
def TopPlannedWrongFalsely : Prop := topPlannedRow.holds Tryd.pinned (OpenSpec.ofChange topPlannedWrong)

/-- 'dovetailtop.TopTrimmed': WHATEVER THE INPUT: true; the input reads as it did. -/
def topTrimmedSpec : ChangeSpec := { name := "topTrimmed", fn := fun _ => fun
  | [d] => { results := [.lit (.bool true)], args := [d] }
  | _ => none }
def topTrimmedRow : OpenClaim := { program := "ytligejpfbcdpmaadoor", sum := "c489bfe1521f68d1742d7cef8faaaa7386d7c46790f909d9dbb24a8d8eb9641b", func := "dovetail/dovetailtop.TopTrimmed", spec := "topTrimmed", inPlace := ["internal/reflectlite.TypeOf"], unfollowed := true, recurses := true, named := ["dovetail/api.ErrNone", "dovetail/api.ErrArg", "internal/strconv.uint64pow10", "math/bits.deBruijn32tab", "math/bits.deBruijn64tab", "dovetail/api.ErrBounds", "dovetail/api.ErrName", "dovetail/api.ErrLong"], plainKeys := false, apart := false, laid := [("math/bits.deBruijn32tab", laid_math_bits_deBruijn32tab), ("math/bits.deBruijn64tab", laid_math_bits_deBruijn64tab), ("internal/strconv.uint64pow10", laid_internal_strconv_uint64pow10), ("dovetail/api.ErrArg", laid_dovetail_api_ErrArg), ("dovetail/api.ErrBounds", laid_dovetail_api_ErrBounds), ("dovetail/api.ErrName", laid_dovetail_api_ErrName), ("dovetail/api.ErrLong", laid_dovetail_api_ErrLong), ("dovetail/api.ErrNone", laid_dovetail_api_ErrNone)] }
def TopTrimmedSaid : Prop := topTrimmedRow.holds Tryd.pinned (OpenSpec.ofChange topTrimmedSpec)

/-- ITS FALSE NEIGHBOUR: 'it returns false'. Refute it at one input. -/
def topTrimmedWrong : ChangeSpec := { name := "topTrimmed", fn := fun _ => fun
  | [d] => { results := [.lit (.bool false)], args := [d] }
  | _ => none }
def TopTrimmedWrongFalsely : Prop := topTrimmedRow.holds Tryd.pinned (OpenSpec.ofChange topTrimmedWrong)

/-- 'dovetailtop.TopWorded': WHATEVER THE INPUT: true; the input reads as it did. -/
def topWordedSpec : ChangeSpec := { name := "topWorded", fn := fun _ => fun
  | [d] => { results := [.lit (.bool true)], args := [d] }
  | _ => none }
def topWordedRow : OpenClaim := { program := "ytligejpfbcdpmaadoor", sum := "c489bfe1521f68d1742d7cef8faaaa7386d7c46790f909d9dbb24a8d8eb9641b", func := "dovetail/dovetailtop.TopWorded", spec := "topWorded", inPlace := ["internal/abi.NoEscape", "internal/bytealg.IndexByteString", "internal/bytealg.MakeNoZero", "internal/reflectlite.TypeOf", "internal/reflectlite.ValueOf", "(internal/reflectlite.Value).Type", "(internal/reflectlite.Value).IsNil", "(internal/reflectlite.Value).Elem", "(internal/reflectlite.Value).Set", "internal/bytealg.CountString", "internal/bytealg.IndexString"], unfollowed := true, recurses := true, named := ["dovetail/api.ErrLong", "dovetail/api.ErrSyntax", "errors.errorType", "internal/bytealg.MaxLen", "unicode/utf8.first", "unicode/utf8.acceptRanges"], plainKeys := false, apart := false, laid := [("unicode/utf8.acceptRanges", laid_unicode_utf8_acceptRanges), ("errors.errorType", laid_errors_errorType), ("dovetail/api.ErrSyntax", laid_dovetail_api_ErrSyntax), ("dovetail/api.ErrLong", laid_dovetail_api_ErrLong), ("unicode/utf8.first", laid_unicode_utf8_first)] }
def TopWordedSaid : Prop := topWordedRow.holds Tryd.pinned (OpenSpec.ofChange topWordedSpec)

/-- ITS FALSE NEIGHBOUR: 'it returns false'. Refute it at one input. -/
def topWordedWrong : ChangeSpec := { name := "topWorded", fn := fun _ => fun
  | [d] => { results := [.lit (.bool false)], args := [d] }
  | _ => none }
def TopWordedWrongFalsely : Prop := topWordedRow.holds Tryd.pinned (OpenSpec.ofChange topWordedWrong)

/-- 'dovetailtop.TopTried': WHATEVER THE INPUT: true; the input reads as it did. -/
def topTriedSpec : ChangeSpec := { name := "topTried", fn := fun _ => fun
  | [d] => { results := [.lit (.bool true)], args := [d] }
  | _ => none }
def topTriedRow : OpenClaim := { program := "ytligejpfbcdpmaadoor", sum := "c489bfe1521f68d1742d7cef8faaaa7386d7c46790f909d9dbb24a8d8eb9641b", func := "dovetail/dovetailtop.TopTried", spec := "topTried", inPlace := ["internal/reflectlite.TypeOf", "internal/reflectlite.ValueOf", "(internal/reflectlite.Value).Type", "(internal/reflectlite.Value).IsNil", "(internal/reflectlite.Value).Elem", "(internal/reflectlite.Value).Set"], unfollowed := true, recurses := true, named := ["dovetail/api.ErrArg", "errors.errorType"], plainKeys := false, apart := false, laid := [("errors.errorType", laid_errors_errorType), ("dovetail/api.ErrArg", laid_dovetail_api_ErrArg)] }
def TopTriedSaid : Prop := topTriedRow.holds Tryd.pinned (OpenSpec.ofChange topTriedSpec)

/-- ITS FALSE NEIGHBOUR: 'it returns false'. Refute it at one input. -/
def topTriedWrong : ChangeSpec := { name := "topTried", fn := fun _ => fun
  | [d] => { results := [.lit (.bool false)], args := [d] }
  | _ => none }
def TopTriedWrongFalsely : Prop := topTriedRow.holds Tryd.pinned (OpenSpec.ofChange topTriedWrong)

/-- 'dovetailtop.TopPaced': WHATEVER THE INPUT: true; the input reads as it did. -/
def topPacedSpec : ChangeSpec := { name := "topPaced", fn := fun _ => fun
  | [d] => { results := [.lit (.bool true)], args := [d] }
  | _ => none }
def topPacedRow : OpenClaim := { program := "ytligejpfbcdpmaadoor", sum := "c489bfe1521f68d1742d7cef8faaaa7386d7c46790f909d9dbb24a8d8eb9641b", func := "dovetail/dovetailtop.TopPaced", spec := "topPaced", inPlace := ["internal/reflectlite.TypeOf", "slices.overlaps[int]"], unfollowed := true, recurses := true, named := ["dovetail/api.ErrArg", "dovetail/api.ErrNone", "dovetail/api.ErrLong"], plainKeys := false, apart := false, laid := [("dovetail/api.ErrArg", laid_dovetail_api_ErrArg), ("dovetail/api.ErrLong", laid_dovetail_api_ErrLong), ("dovetail/api.ErrNone", laid_dovetail_api_ErrNone)] }
def TopPacedSaid : Prop := topPacedRow.holds Tryd.pinned (OpenSpec.ofChange topPacedSpec)

/-- ITS FALSE NEIGHBOUR: 'it returns false'. Refute it at one input. -/
def topPacedWrong : ChangeSpec := { name := "topPaced", fn := fun _ => fun
  | [d] => { results := [.lit (.bool false)], args := [d] }
  | _ => none }
def TopPacedWrongFalsely : Prop := topPacedRow.holds Tryd.pinned (OpenSpec.ofChange topPacedWrong)

/- THE SECOND FORM. 'bulk': how many values and letters a reading holds, each counted each time it is reached (what is shared counts as often as it is met; a slice's spare places count too). A statement '..UptoSaid' is the law's where the arguments, and the package variables that the reading takes, are together of bulk at most 1048576: NARROWER than '..Said'. Prove '..Said' where nothing that the law and all that it calls make is longer than what came in: it says more and counts as full. Else prove '..UptoSaid'. A law counts once. -/
mutual
def uptoBulk {H : Type} : DataW H → Nat
  | .lit (.string bytes) => bytes.length + 1
  | .lit _ => 1
  | .nil => 1
  | .ptr d => uptoBulk d + 1
  | .slice elems spare => uptoBulkAll elems + uptoBulkAll spare + 1
  | .agg parts => uptoBulkAll parts + 1
  | .iface _ d => uptoBulk d + 1
  | .map entries => uptoBulkEntries entries + 1
  | .held _ => 1
def uptoBulkAll {H : Type} : List (DataW H) → Nat
  | [] => 0
  | d :: r => uptoBulk d + uptoBulkAll r
def uptoBulkEntries {H : Type} : List (Lit × DataW H) → Nat
  | [] => 0
  | x :: r => uptoBulkEntry x + uptoBulkEntries r
def uptoBulkEntry {H : Type} : Lit × DataW H → Nat
  | (.string bytes, d) => bytes.length + uptoBulk d + 1
  | (_, d) => uptoBulk d + 1
 end
def uptoSmall : (H : Type) → List (DataW H) → Bool := fun _ ds => decide (uptoBulkAll ds ≤ 1048576)
def OpenSpec.upto (s : _root_.Go.ChangeSpec) : _root_.Go.OpenSpec := { _root_.Go.OpenSpec.ofChange s with cond := some uptoSmall }

/-- 'dovetailtop.TopSetted', WHERE WHAT IT READS IS OF BULK AT MOST 1048576: true; the input reads as it did. -/
def topSettedUptoRow : OpenClaim := { program := "ytligejpfbcdpmaadoor", sum := "c489bfe1521f68d1742d7cef8faaaa7386d7c46790f909d9dbb24a8d8eb9641b", func := "dovetail/dovetailtop.TopSetted", spec := "topSetted", inPlace := ["internal/abi.NoEscape", "internal/bytealg.MakeNoZero"], unfollowed := true, recurses := true, named := ["math/bits.deBruijn64tab", "internal/strconv.uint64pow10", "math/bits.deBruijn32tab"], plainKeys := false, apart := false, laid := [("math/bits.deBruijn32tab", laid_math_bits_deBruijn32tab), ("math/bits.deBruijn64tab", laid_math_bits_deBruijn64tab), ("internal/strconv.uint64pow10", laid_internal_strconv_uint64pow10)], narrowed := true }
def TopSettedUptoSaid : Prop := topSettedUptoRow.holds Tryd.pinned (OpenSpec.upto topSettedSpec)

/-- 'dovetailtop.TopEnded', WHERE WHAT IT READS IS OF BULK AT MOST 1048576: true; the input reads as it did. -/
def topEndedUptoRow : OpenClaim := { program := "ytligejpfbcdpmaadoor", sum := "c489bfe1521f68d1742d7cef8faaaa7386d7c46790f909d9dbb24a8d8eb9641b", func := "dovetail/dovetailtop.TopEnded", spec := "topEnded", inPlace := ["internal/reflectlite.TypeOf"], unfollowed := true, recurses := true, named := ["dovetail/api.ErrNone", "dovetail/api.ErrArg", "internal/strconv.uint64pow10", "math/bits.deBruijn32tab", "math/bits.deBruijn64tab", "dovetail/api.ErrBounds", "dovetail/api.ErrName"], plainKeys := false, apart := false, laid := [("math/bits.deBruijn32tab", laid_math_bits_deBruijn32tab), ("math/bits.deBruijn64tab", laid_math_bits_deBruijn64tab), ("internal/strconv.uint64pow10", laid_internal_strconv_uint64pow10), ("dovetail/api.ErrArg", laid_dovetail_api_ErrArg), ("dovetail/api.ErrBounds", laid_dovetail_api_ErrBounds), ("dovetail/api.ErrName", laid_dovetail_api_ErrName), ("dovetail/api.ErrNone", laid_dovetail_api_ErrNone)], narrowed := true }
def TopEndedUptoSaid : Prop := topEndedUptoRow.holds Tryd.pinned (OpenSpec.upto topEndedSpec)

/-- 'dovetailtop.TopPlanned', WHERE WHAT IT READS IS OF BULK AT MOST 1048576: true; the input reads as it did. -/
def topPlannedUptoRow : OpenClaim := { program := "ytligejpfbcdpmaadoor", sum := "c489bfe1521f68d1742d7cef8faaaa7386d7c46790f909d9dbb24a8d8eb9641b", func := "dovetail/dovetailtop.TopPlanned", spec := "topPlanned", inPlace := ["internal/reflectlite.TypeOf", "internal/reflectlite.ValueOf", "(internal/reflectlite.Value).Type", "(internal/reflectlite.Value).IsNil", "(internal/reflectlite.Value).Elem", "(internal/reflectlite.Value).Set"], unfollowed := true, recurses := true, named := ["dovetail/api.ErrPlan", "dovetail/api.ErrSyntax", "dovetail/api.ErrCut", "internal/strconv.uint64pow10", "math/bits.deBruijn32tab", "math/bits.deBruijn64tab", "dovetail/api.ErrArg", "errors.errorType"], plainKeys := false, apart := false, laid := [("math/bits.deBruijn32tab", laid_math_bits_deBruijn32tab), ("math/bits.deBruijn64tab", laid_math_bits_deBruijn64tab), ("internal/strconv.uint64pow10", laid_internal_strconv_uint64pow10), ("errors.errorType", laid_errors_errorType), ("dovetail/api.ErrArg", laid_dovetail_api_ErrArg), ("dovetail/api.ErrSyntax", laid_dovetail_api_ErrSyntax), ("dovetail/api.ErrCut", laid_dovetail_api_ErrCut), ("dovetail/api.ErrPlan", laid_dovetail_api_ErrPlan)], narrowed := true }
def TopPlannedUptoSaid : Prop := topPlannedUptoRow.holds Tryd.pinned (OpenSpec.upto topPlannedSpec)

/-- 'dovetailtop.TopTrimmed', WHERE WHAT IT READS IS OF BULK AT MOST 1048576: true; the input reads as it did. -/
def topTrimmedUptoRow : OpenClaim := { program := "ytligejpfbcdpmaadoor", sum := "c489bfe1521f68d1742d7cef8faaaa7386d7c46790f909d9dbb24a8d8eb9641b", func := "dovetail/dovetailtop.TopTrimmed", spec := "topTrimmed", inPlace := ["internal/reflectlite.TypeOf"], unfollowed := true, recurses := true, named := ["dovetail/api.ErrNone", "dovetail/api.ErrArg", "internal/strconv.uint64pow10", "math/bits.deBruijn32tab", "math/bits.deBruijn64tab", "dovetail/api.ErrBounds", "dovetail/api.ErrName", "dovetail/api.ErrLong"], plainKeys := false, apart := false, laid := [("math/bits.deBruijn32tab", laid_math_bits_deBruijn32tab), ("math/bits.deBruijn64tab", laid_math_bits_deBruijn64tab), ("internal/strconv.uint64pow10", laid_internal_strconv_uint64pow10), ("dovetail/api.ErrArg", laid_dovetail_api_ErrArg), ("dovetail/api.ErrBounds", laid_dovetail_api_ErrBounds), ("dovetail/api.ErrName", laid_dovetail_api_ErrName), ("dovetail/api.ErrLong", laid_dovetail_api_ErrLong), ("dovetail/api.ErrNone", laid_dovetail_api_ErrNone)], narrowed := true }
def TopTrimmedUptoSaid : Prop := topTrimmedUptoRow.holds Tryd.pinned (OpenSpec.upto topTrimmedSpec)

/-- 'dovetailtop.TopWorded', WHERE WHAT IT READS IS OF BULK AT MOST 1048576: true; the input reads as it did. -/
def topWordedUptoRow : OpenClaim := { program := "ytligejpfbcdpmaadoor", sum := "c489bfe1521f68d1742d7cef8faaaa7386d7c46790f909d9dbb24a8d8eb9641b", func := "dovetail/dovetailtop.TopWorded", spec := "topWorded", inPlace := ["internal/abi.NoEscape", "internal/bytealg.IndexByteString", "internal/bytealg.MakeNoZero", "internal/reflectlite.TypeOf", "internal/reflectlite.ValueOf", "(internal/reflectlite.Value).Type", "(internal/reflectlite.Value).IsNil", "(internal/reflectlite.Value).Elem", "(internal/reflectlite.Value).Set", "internal/bytealg.CountString", "internal/bytealg.IndexString"], unfollowed := true, recurses := true, named := ["dovetail/api.ErrLong", "dovetail/api.ErrSyntax", "errors.errorType", "internal/bytealg.MaxLen", "unicode/utf8.first", "unicode/utf8.acceptRanges"], plainKeys := false, apart := false, laid := [("unicode/utf8.acceptRanges", laid_unicode_utf8_acceptRanges), ("errors.errorType", laid_errors_errorType), ("dovetail/api.ErrSyntax", laid_dovetail_api_ErrSyntax), ("dovetail/api.ErrLong", laid_dovetail_api_ErrLong), ("unicode/utf8.first", laid_unicode_utf8_first)], narrowed := true }
def TopWordedUptoSaid : Prop := topWordedUptoRow.holds Tryd.pinned (OpenSpec.upto topWordedSpec)

/-- 'dovetailtop.TopTried', WHERE WHAT IT READS IS OF BULK AT MOST 1048576: true; the input reads as it did. -/
def topTriedUptoRow : OpenClaim := { program := "ytligejpfbcdpmaadoor", sum := "c489bfe1521f68d1742d7cef8faaaa7386d7c46790f909d9dbb24a8d8eb9641b", func := "dovetail/dovetailtop.TopTried", spec := "topTried", inPlace := ["internal/reflectlite.TypeOf", "internal/reflectlite.ValueOf", "(internal/reflectlite.Value).Type", "(internal/reflectlite.Value).IsNil", "(internal/reflectlite.Value).Elem", "(internal/reflectlite.Value).Set"], unfollowed := true, recurses := true, named := ["dovetail/api.ErrArg", "errors.errorType"], plainKeys := false, apart := false, laid := [("errors.errorType", laid_errors_errorType), ("dovetail/api.ErrArg", laid_dovetail_api_ErrArg)], narrowed := true }
def TopTriedUptoSaid : Prop := topTriedUptoRow.holds Tryd.pinned (OpenSpec.upto topTriedSpec)

/-- 'dovetailtop.TopPaced', WHERE WHAT IT READS IS OF BULK AT MOST 1048576: true; the input reads as it did. -/
def topPacedUptoRow : OpenClaim := { program := "ytligejpfbcdpmaadoor", sum := "c489bfe1521f68d1742d7cef8faaaa7386d7c46790f909d9dbb24a8d8eb9641b", func := "dovetail/dovetailtop.TopPaced", spec := "topPaced", inPlace := ["internal/reflectlite.TypeOf", "slices.overlaps[int]"], unfollowed := true, recurses := true, named := ["dovetail/api.ErrArg", "dovetail/api.ErrNone", "dovetail/api.ErrLong"], plainKeys := false, apart := false, laid := [("dovetail/api.ErrArg", laid_dovetail_api_ErrArg), ("dovetail/api.ErrLong", laid_dovetail_api_ErrLong), ("dovetail/api.ErrNone", laid_dovetail_api_ErrNone)], narrowed := true }
def TopPacedUptoSaid : Prop := topPacedUptoRow.holds Tryd.pinned (OpenSpec.upto topPacedSpec)

end Rows
end Go.Proofs.YtligejpfbcdpmaaDoor
