/-
  NARROWER THAN 'FOR EVERY INPUT', by the rows' own cells (each row's printed sentence says how): XferSame: laid · XferKeeps: laid.
  DERIVED. THE GIVEN ROWS OF THIS SEAT. 2 by the template 'for every input the law returns true; each argument reads behind the call as it read before'; 0 by the template 'total and deterministic' (their statements: YtdpoalbbcmkceaaGreatDoorTotals.lean).
  GIVEN WITH THE SEED: the statements are not yours to turn. If you find one false, say at which input.
  Laid BY PROGRAM, IN A SANDBOX (cutbox-rows.mjs): the forced cells as the released guide's own fill.sh prints them over the translation cb82374ee9a51278… (all of the seat's roots in one cut). By AI agents, Wed Nov 11 2026. No macro, syntax, notation, axiom, sorry.
-/
import Derived.Test.YtdpoalbbcmkceaaGreatDoorChecked
import GoSem.PinnedTables
import GoSem.Claim
import GoSem.ClaimJoined
import GoSem.ClaimMapViews
import Derived.JoinedTies
import Derived.KernelRfl
namespace Go.Proofs.YtdpoalbbcmkceaaGreatDoor
/- THE CELL 'sum', in the pinned program and in every row, IS THE sha256 OF THE DUMP (.gsa) THAT YtdpoalbbcmkceaaGreatDoorProg.lean LOADS. Nothing in Lean hashes anything: it is a label: what it is worth is what the hold of that sum in a sandbox is worth. -/
noncomputable def Tryz.pinned : Pinned := { name := "ytdpoalbbcmkceaagreatdoor", sum := "cb82374ee9a51278d6c7d4da88e27d3c81df7e8adf807d6e1504c7d94c47c4bb", checked := Tryz.checked }
namespace Rows
def none {H : Type} : Left H := { results := [], args := [] }

/- WHAT THE LISTED PACKAGE-LEVEL VARIABLES READ AS WHEN THE CALL BEGINS. Each datum BY PROGRAM (the guide's laid-datum.mjs) off the statement by which the dump's own 'gosem.cut.vars' lays the variable. In a bare row this is a premise. The card (YtdpoalbbcmkceaaGreatDoorCards.lean) ties it to the program's text. -/
def laid_unicode_utf8_acceptRanges {H : Type} : DataW H := .agg [.agg [.lit (.int .u8 128), .lit (.int .u8 191)], .agg [.lit (.int .u8 160), .lit (.int .u8 191)], .agg [.lit (.int .u8 128), .lit (.int .u8 159)], .agg [.lit (.int .u8 144), .lit (.int .u8 191)], .agg [.lit (.int .u8 128), .lit (.int .u8 143)], .agg [.lit (.int .u8 0), .lit (.int .u8 0)], .agg [.lit (.int .u8 0), .lit (.int .u8 0)], .agg [.lit (.int .u8 0), .lit (.int .u8 0)], .agg [.lit (.int .u8 0), .lit (.int .u8 0)], .agg [.lit (.int .u8 0), .lit (.int .u8 0)], .agg [.lit (.int .u8 0), .lit (.int .u8 0)], .agg [.lit (.int .u8 0), .lit (.int .u8 0)], .agg [.lit (.int .u8 0), .lit (.int .u8 0)], .agg [.lit (.int .u8 0), .lit (.int .u8 0)], .agg [.lit (.int .u8 0), .lit (.int .u8 0)], .agg [.lit (.int .u8 0), .lit (.int .u8 0)]]
def laid_packhorse_api_ErrText {H : Type} : DataW H := .iface "*errors.errorString" (.ptr (.agg [.lit (.string [112, 97, 99, 107, 104, 111, 114, 115, 101, 58, 32, 116, 101, 120, 116])]))
def laid_packhorse_api_ErrBound {H : Type} : DataW H := .iface "*errors.errorString" (.ptr (.agg [.lit (.string [112, 97, 99, 107, 104, 111, 114, 115, 101, 58, 32, 98, 111, 117, 110, 100])]))
def laid_packhorse_api_ErrShape {H : Type} : DataW H := .iface "*errors.errorString" (.ptr (.agg [.lit (.string [112, 97, 99, 107, 104, 111, 114, 115, 101, 58, 32, 115, 104, 97, 112, 101])]))
def laid_packhorse_api_ErrKind {H : Type} : DataW H := .iface "*errors.errorString" (.ptr (.agg [.lit (.string [112, 97, 99, 107, 104, 111, 114, 115, 101, 58, 32, 107, 105, 110, 100])]))
def laid_packhorse_api_ErrName {H : Type} : DataW H := .iface "*errors.errorString" (.ptr (.agg [.lit (.string [112, 97, 99, 107, 104, 111, 114, 115, 101, 58, 32, 110, 97, 109, 101])]))
def laid_packhorse_api_ErrNone {H : Type} : DataW H := .iface "*errors.errorString" (.ptr (.agg [.lit (.string [112, 97, 99, 107, 104, 111, 114, 115, 101, 58, 32, 110, 111, 110, 101])]))
def laid_packhorse_api_ErrFull {H : Type} : DataW H := .iface "*errors.errorString" (.ptr (.agg [.lit (.string [112, 97, 99, 107, 104, 111, 114, 115, 101, 58, 32, 102, 117, 108, 108])]))
def laid_packhorse_api_ErrOrder {H : Type} : DataW H := .iface "*errors.errorString" (.ptr (.agg [.lit (.string [112, 97, 99, 107, 104, 111, 114, 115, 101, 58, 32, 111, 114, 100, 101, 114])]))
def laid_packhorse_api_ErrSum {H : Type} : DataW H := .iface "*errors.errorString" (.ptr (.agg [.lit (.string [112, 97, 99, 107, 104, 111, 114, 115, 101, 58, 32, 115, 117, 109])]))
def laid_packhorse_api_ErrStale {H : Type} : DataW H := .iface "*errors.errorString" (.ptr (.agg [.lit (.string [112, 97, 99, 107, 104, 111, 114, 115, 101, 58, 32, 115, 116, 97, 108, 101])]))
/-- One of Go's own tables, pinned by name: the form's constant. -/
def laid_unicode_utf8_first : DataW Unit := Go.Pinned.utf8First
def laid_errors_errorType {H : Type} : DataW H := .iface "internal/reflectlite.rtype" (.agg [.ptr (.lit (.string [101, 114, 114, 111, 114]))])
def laid_packhorse_api_ErrExist {H : Type} : DataW H := .iface "*errors.errorString" (.ptr (.agg [.lit (.string [112, 97, 99, 107, 104, 111, 114, 115, 101, 58, 32, 101, 120, 105, 115, 116])]))
def laid_packhorse_api_ErrOff {H : Type} : DataW H := .iface "*errors.errorString" (.ptr (.agg [.lit (.string [112, 97, 99, 107, 104, 111, 114, 115, 101, 58, 32, 111, 102, 102])]))

/-- 'packhorselaw3.XferSame': WHATEVER THE INPUT: true; the input reads as it did. -/
def xferSameSpec : ChangeSpec := { name := "xferSame", fn := fun _ => fun
  | [d1, d2, d3] => { results := [.lit (.bool true)], args := [d1, d2, d3] }
  | _ => none }
def xferSameRow : OpenClaim := { program := "ytdpoalbbcmkceaagreatdoor", sum := "cb82374ee9a51278d6c7d4da88e27d3c81df7e8adf807d6e1504c7d94c47c4bb", func := "packhorse/packhorselaw3.XferSame", spec := "xferSame", inPlace := ["internal/bytealg.IndexByteString", "internal/bytealg.IndexString", "internal/bytealg.abigen_runtime_cmpstring", "internal/abi.NoEscape", "slices.overlaps[packhorse/api.File]"], unfollowed := true, recurses := true, named := ["packhorse/api.ErrFull", "packhorse/api.ErrName", "packhorse/api.ErrBound", "packhorse/api.ErrOrder", "unicode/utf8.first", "unicode/utf8.acceptRanges", "packhorse/api.ErrKind", "packhorse/api.ErrText", "packhorse/api.ErrSum", "packhorse/api.ErrShape", "packhorse/api.ErrNone", "packhorse/api.ErrStale", "internal/bytealg.MaxLen"], apart := false, laid := [("unicode/utf8.acceptRanges", laid_unicode_utf8_acceptRanges), ("packhorse/api.ErrText", laid_packhorse_api_ErrText), ("packhorse/api.ErrBound", laid_packhorse_api_ErrBound), ("packhorse/api.ErrShape", laid_packhorse_api_ErrShape), ("packhorse/api.ErrKind", laid_packhorse_api_ErrKind), ("packhorse/api.ErrName", laid_packhorse_api_ErrName), ("packhorse/api.ErrNone", laid_packhorse_api_ErrNone), ("packhorse/api.ErrFull", laid_packhorse_api_ErrFull), ("packhorse/api.ErrOrder", laid_packhorse_api_ErrOrder), ("packhorse/api.ErrSum", laid_packhorse_api_ErrSum), ("packhorse/api.ErrStale", laid_packhorse_api_ErrStale), ("unicode/utf8.first", laid_unicode_utf8_first)] }
def XferSameSaid : Prop := xferSameRow.holds Tryz.pinned (OpenSpec.ofChange xferSameSpec)

/-- ITS FALSE NEIGHBOUR: 'it returns false'. Refute it at one input. -/
def xferSameWrong : ChangeSpec := { name := "xferSame", fn := fun _ => fun
  | [d1, d2, d3] => { results := [.lit (.bool false)], args := [d1, d2, d3] }
  | _ => none }
def XferSameWrongFalsely : Prop := xferSameRow.holds Tryz.pinned (OpenSpec.ofChange xferSameWrong)

/-- 'packhorselaw3.XferKeeps': WHATEVER THE INPUT: true; the input reads as it did. -/
def xferKeepsSpec : ChangeSpec := { name := "xferKeeps", fn := fun _ => fun
  | [d1, d2, d3] => { results := [.lit (.bool true)], args := [d1, d2, d3] }
  | _ => none }
def xferKeepsRow : OpenClaim := { program := "ytdpoalbbcmkceaagreatdoor", sum := "cb82374ee9a51278d6c7d4da88e27d3c81df7e8adf807d6e1504c7d94c47c4bb", func := "packhorse/packhorselaw3.XferKeeps", spec := "xferKeeps", inPlace := ["internal/bytealg.IndexByteString", "internal/bytealg.IndexString", "internal/bytealg.abigen_runtime_cmpstring", "internal/abi.NoEscape", "slices.overlaps[packhorse/api.File]", "internal/reflectlite.ValueOf", "(internal/reflectlite.Value).Type", "(internal/reflectlite.Value).IsNil", "internal/reflectlite.TypeOf", "(internal/reflectlite.Value).Elem", "(internal/reflectlite.Value).Set"], unfollowed := true, recurses := true, named := ["packhorse/api.ErrFull", "packhorse/api.ErrName", "packhorse/api.ErrBound", "packhorse/api.ErrOrder", "unicode/utf8.first", "unicode/utf8.acceptRanges", "packhorse/api.ErrKind", "packhorse/api.ErrText", "packhorse/api.ErrSum", "packhorse/api.ErrShape", "packhorse/api.ErrNone", "packhorse/api.ErrStale", "packhorse/api.ErrExist", "packhorse/api.ErrOff", "errors.errorType", "internal/bytealg.MaxLen"], apart := false, laid := [("unicode/utf8.acceptRanges", laid_unicode_utf8_acceptRanges), ("errors.errorType", laid_errors_errorType), ("packhorse/api.ErrText", laid_packhorse_api_ErrText), ("packhorse/api.ErrBound", laid_packhorse_api_ErrBound), ("packhorse/api.ErrShape", laid_packhorse_api_ErrShape), ("packhorse/api.ErrKind", laid_packhorse_api_ErrKind), ("packhorse/api.ErrName", laid_packhorse_api_ErrName), ("packhorse/api.ErrNone", laid_packhorse_api_ErrNone), ("packhorse/api.ErrExist", laid_packhorse_api_ErrExist), ("packhorse/api.ErrFull", laid_packhorse_api_ErrFull), ("packhorse/api.ErrOrder", laid_packhorse_api_ErrOrder), ("packhorse/api.ErrSum", laid_packhorse_api_ErrSum), ("packhorse/api.ErrStale", laid_packhorse_api_ErrStale), ("packhorse/api.ErrOff", laid_packhorse_api_ErrOff), ("unicode/utf8.first", laid_unicode_utf8_first)] }
def XferKeepsSaid : Prop := xferKeepsRow.holds Tryz.pinned (OpenSpec.ofChange xferKeepsSpec)

/-- ITS FALSE NEIGHBOUR: 'it returns false'. Refute it at one input. -/
def xferKeepsWrong : ChangeSpec := { name := "xferKeeps", fn := fun _ => fun
  | [d1, d2, d3] => { results := [.lit (.bool false)], args := [d1, d2, d3] }
  | _ => none }
def XferKeepsWrongFalsely : Prop := xferKeepsRow.holds Tryz.pinned (OpenSpec.ofChange xferKeepsWrong)

/- THE SECOND FORM. 'bulk': how many values and letters a reading holds, each counted each time it is reached (what is shared counts as often as it is met; a slice's spare places count too). A statement '..UptoSaid' is the law's where the arguments, and the package variables that the reading takes, are together of bulk at most 1048576: NARROWER than '..Said'. Prove '..Said' where nothing that the law and all that it calls make is longer than what came in: it says more and counts as full. Else prove '..UptoSaid'. A law counts once. -/
mutual
def uptoBulk {H : Type} : DataW H → Nat
  | .lit (.string bytes) => bytes.length + 1
  | .lit _ => 1
  | .nil => 1
  | .ptr d => uptoBulk d + 1
  | .slice elems spare => uptoBulkAll elems + uptoBulkAll spare + 1
  | .agg parts => uptoBulkAll parts + 1
  | .iface _ d => uptoBulk d + 1
  | .map entries => uptoBulkEntries entries + 1
  | .held _ => 1
def uptoBulkAll {H : Type} : List (DataW H) → Nat
  | [] => 0
  | d :: r => uptoBulk d + uptoBulkAll r
def uptoBulkEntries {H : Type} : List (Lit × DataW H) → Nat
  | [] => 0
  | x :: r => uptoBulkEntry x + uptoBulkEntries r
def uptoBulkEntry {H : Type} : Lit × DataW H → Nat
  | (.string bytes, d) => bytes.length + uptoBulk d + 1
  | (_, d) => uptoBulk d + 1
 end
def uptoSmall : (H : Type) → List (DataW H) → Bool := fun _ ds => decide (uptoBulkAll ds ≤ 1048576)
def OpenSpec.upto (s : _root_.Go.ChangeSpec) : _root_.Go.OpenSpec := { _root_.Go.OpenSpec.ofChange s with cond := some uptoSmall }

/-- 'packhorselaw3.XferSame', WHERE WHAT IT READS IS OF BULK AT MOST 1048576: true; the input reads as it did. -/
def xferSameUptoRow : OpenClaim := { program := "ytdpoalbbcmkceaagreatdoor", sum := "cb82374ee9a51278d6c7d4da88e27d3c81df7e8adf807d6e1504c7d94c47c4bb", func := "packhorse/packhorselaw3.XferSame", spec := "xferSame", inPlace := ["internal/bytealg.IndexByteString", "internal/bytealg.IndexString", "internal/bytealg.abigen_runtime_cmpstring", "internal/abi.NoEscape", "slices.overlaps[packhorse/api.File]"], unfollowed := true, recurses := true, named := ["packhorse/api.ErrFull", "packhorse/api.ErrName", "packhorse/api.ErrBound", "packhorse/api.ErrOrder", "unicode/utf8.first", "unicode/utf8.acceptRanges", "packhorse/api.ErrKind", "packhorse/api.ErrText", "packhorse/api.ErrSum", "packhorse/api.ErrShape", "packhorse/api.ErrNone", "packhorse/api.ErrStale", "internal/bytealg.MaxLen"], apart := false, laid := [("unicode/utf8.acceptRanges", laid_unicode_utf8_acceptRanges), ("packhorse/api.ErrText", laid_packhorse_api_ErrText), ("packhorse/api.ErrBound", laid_packhorse_api_ErrBound), ("packhorse/api.ErrShape", laid_packhorse_api_ErrShape), ("packhorse/api.ErrKind", laid_packhorse_api_ErrKind), ("packhorse/api.ErrName", laid_packhorse_api_ErrName), ("packhorse/api.ErrNone", laid_packhorse_api_ErrNone), ("packhorse/api.ErrFull", laid_packhorse_api_ErrFull), ("packhorse/api.ErrOrder", laid_packhorse_api_ErrOrder), ("packhorse/api.ErrSum", laid_packhorse_api_ErrSum), ("packhorse/api.ErrStale", laid_packhorse_api_ErrStale), ("unicode/utf8.first", laid_unicode_utf8_first)], narrowed := true }
def XferSameUptoSaid : Prop := xferSameUptoRow.holds Tryz.pinned (OpenSpec.upto xferSameSpec)

/-- 'packhorselaw3.XferKeeps', WHERE WHAT IT READS IS OF BULK AT MOST 1048576: true; the input reads as it did. -/
def xferKeepsUptoRow : OpenClaim := { program := "ytdpoalbbcmkceaagreatdoor", sum := "cb82374ee9a51278d6c7d4da88e27d3c81df7e8adf807d6e1504c7d94c47c4bb", func := "packhorse/packhorselaw3.XferKeeps", spec := "xferKeeps", inPlace := ["internal/bytealg.IndexByteString", "internal/bytealg.IndexString", "internal/bytealg.abigen_runtime_cmpstring", "internal/abi.NoEscape", "slices.overlaps[packhorse/api.File]", "internal/reflectlite.ValueOf", "(internal/reflectlite.Value).Type", "(internal/reflectlite.Value).IsNil", "internal/reflectlite.TypeOf", "(internal/reflectlite.Value).Elem", "(internal/reflectlite.Value).Set"], unfollowed := true, recurses := true, named := ["packhorse/api.ErrFull", "packhorse/api.ErrName", "packhorse/api.ErrBound", "packhorse/api.ErrOrder", "unicode/utf8.first", "unicode/utf8.acceptRanges", "packhorse/api.ErrKind", "packhorse/api.ErrText", "packhorse/api.ErrSum", "packhorse/api.ErrShape", "packhorse/api.ErrNone", "packhorse/api.ErrStale", "packhorse/api.ErrExist", "packhorse/api.ErrOff", "errors.errorType", "internal/bytealg.MaxLen"], apart := false, laid := [("unicode/utf8.acceptRanges", laid_unicode_utf8_acceptRanges), ("errors.errorType", laid_errors_errorType), ("packhorse/api.ErrText", laid_packhorse_api_ErrText), ("packhorse/api.ErrBound", laid_packhorse_api_ErrBound), ("packhorse/api.ErrShape", laid_packhorse_api_ErrShape), ("packhorse/api.ErrKind", laid_packhorse_api_ErrKind), ("packhorse/api.ErrName", laid_packhorse_api_ErrName), ("packhorse/api.ErrNone", laid_packhorse_api_ErrNone), ("packhorse/api.ErrExist", laid_packhorse_api_ErrExist), ("packhorse/api.ErrFull", laid_packhorse_api_ErrFull), ("packhorse/api.ErrOrder", laid_packhorse_api_ErrOrder), ("packhorse/api.ErrSum", laid_packhorse_api_ErrSum), ("packhorse/api.ErrStale", laid_packhorse_api_ErrStale), ("packhorse/api.ErrOff", laid_packhorse_api_ErrOff), ("unicode/utf8.first", laid_unicode_utf8_first)], narrowed := true }
def XferKeepsUptoSaid : Prop := xferKeepsUptoRow.holds Tryz.pinned (OpenSpec.upto xferKeepsSpec)

end Rows
end Go.Proofs.YtdpoalbbcmkceaaGreatDoor
