/-
  No cell of these rows narrows 'for every input' (looked for: loops, veiled, ifaces, maps, wideKeys, modest, calm, conditions, laid).
  DERIVED. THE GIVEN ROWS OF THIS SEAT. 12 by the template 'for every input the law returns true; each argument reads behind the call as it read before'; 0 by the template 'total and deterministic' (their statements: YtkfhedppnlocpaaTotals.lean).
  GIVEN WITH THE SEED: the statements are not yours to turn. If you find one false, say at which input.
  Laid BY PROGRAM, IN A SANDBOX (cutbox-rows.mjs): the forced cells as the released guide's own fill.sh prints them over the translation 47bd5a15d3968f6f… (all of the seat's roots in one cut). By AI agents, Wed Nov 11 2026. No macro, syntax, notation, axiom, sorry.
-/
import Derived.Test.YtkfhedppnlocpaaChecked
import GoSem.Claim
import GoSem.ClaimJoined
import GoSem.ClaimMapViews
import Derived.JoinedTies
import Derived.KernelRfl
namespace Go.Proofs.Ytkfhedppnlocpaa
/- THE CELL 'sum', in the pinned program and in every row, IS THE sha256 OF THE DUMP (.gsa) THAT YtkfhedppnlocpaaProg.lean LOADS. Nothing in Lean hashes anything: it is a label: what it is worth is what the hold of that sum in a sandbox is worth. -/
noncomputable def Try.pinned : Pinned := { name := "ytkfhedppnlocpaa", sum := "47bd5a15d3968f6f0cc7aaba6e7cdf66db3fbf16ee52e4c80d9bed19f7414419", checked := Try.checked }
namespace Rows
def none {H : Type} : Left H := { results := [], args := [] }

/-- 'granarylaw3.RecordNumbers': WHATEVER THE INPUT: true; the input reads as it did. -/
def recordNumbersSpec : ChangeSpec := { name := "recordNumbers", fn := fun _ => fun
  | [d1, d2, d3, d4] => { results := [.lit (.bool true)], args := [d1, d2, d3, d4] }
  | _ => none }
def recordNumbersRow : OpenClaim := { program := "ytkfhedppnlocpaa", sum := "47bd5a15d3968f6f0cc7aaba6e7cdf66db3fbf16ee52e4c80d9bed19f7414419", func := "granary/granarylaw3.RecordNumbers", spec := "recordNumbers", inPlace := ["internal/abi.NoEscape"], apart := false }
def RecordNumbersSaid : Prop := recordNumbersRow.holds Try.pinned (OpenSpec.ofChange recordNumbersSpec)

/-- ITS FALSE NEIGHBOUR: 'it returns false'. Refute it at one input. -/
def recordNumbersWrong : ChangeSpec := { name := "recordNumbers", fn := fun _ => fun
  | [d1, d2, d3, d4] => { results := [.lit (.bool false)], args := [d1, d2, d3, d4] }
  | _ => none }
def RecordNumbersWrongFalsely : Prop := recordNumbersRow.holds Try.pinned (OpenSpec.ofChange recordNumbersWrong)

/-- 'granarylaw3.RecordDigits': WHATEVER THE INPUT: true; the input reads as it did. -/
def recordDigitsSpec : ChangeSpec := { name := "recordDigits", fn := fun _ => fun
  | [d1, d2, d3, d4, d5] => { results := [.lit (.bool true)], args := [d1, d2, d3, d4, d5] }
  | _ => none }
def recordDigitsRow : OpenClaim := { program := "ytkfhedppnlocpaa", sum := "47bd5a15d3968f6f0cc7aaba6e7cdf66db3fbf16ee52e4c80d9bed19f7414419", func := "granary/granarylaw3.RecordDigits", spec := "recordDigits", inPlace := ["internal/abi.NoEscape"], apart := false }
def RecordDigitsSaid : Prop := recordDigitsRow.holds Try.pinned (OpenSpec.ofChange recordDigitsSpec)

/-- ITS FALSE NEIGHBOUR: 'it returns false'. Refute it at one input. -/
def recordDigitsWrong : ChangeSpec := { name := "recordDigits", fn := fun _ => fun
  | [d1, d2, d3, d4, d5] => { results := [.lit (.bool false)], args := [d1, d2, d3, d4, d5] }
  | _ => none }
def RecordDigitsWrongFalsely : Prop := recordDigitsRow.holds Try.pinned (OpenSpec.ofChange recordDigitsWrong)

/-- 'granarylaw3.RecordEntries': WHATEVER THE INPUT: true; the input reads as it did. -/
def recordEntriesSpec : ChangeSpec := { name := "recordEntries", fn := fun _ => fun
  | [d1, d2, d3, d4, d5] => { results := [.lit (.bool true)], args := [d1, d2, d3, d4, d5] }
  | _ => none }
def recordEntriesRow : OpenClaim := { program := "ytkfhedppnlocpaa", sum := "47bd5a15d3968f6f0cc7aaba6e7cdf66db3fbf16ee52e4c80d9bed19f7414419", func := "granary/granarylaw3.RecordEntries", spec := "recordEntries", inPlace := ["internal/abi.NoEscape"], apart := false }
def RecordEntriesSaid : Prop := recordEntriesRow.holds Try.pinned (OpenSpec.ofChange recordEntriesSpec)

/-- ITS FALSE NEIGHBOUR: 'it returns false'. Refute it at one input. -/
def recordEntriesWrong : ChangeSpec := { name := "recordEntries", fn := fun _ => fun
  | [d1, d2, d3, d4, d5] => { results := [.lit (.bool false)], args := [d1, d2, d3, d4, d5] }
  | _ => none }
def RecordEntriesWrongFalsely : Prop := recordEntriesRow.holds Try.pinned (OpenSpec.ofChange recordEntriesWrong)

/-- 'granarylaw3.RecordReads': WHATEVER THE INPUT: true; the input reads as it did. -/
def recordReadsSpec : ChangeSpec := { name := "recordReads", fn := fun _ => fun
  | [d1, d2] => { results := [.lit (.bool true)], args := [d1, d2] }
  | _ => none }
def recordReadsRow : OpenClaim := { program := "ytkfhedppnlocpaa", sum := "47bd5a15d3968f6f0cc7aaba6e7cdf66db3fbf16ee52e4c80d9bed19f7414419", func := "granary/granarylaw3.RecordReads", spec := "recordReads", unfollowed := true, recurses := true, apart := false }
def RecordReadsSaid : Prop := recordReadsRow.holds Try.pinned (OpenSpec.ofChange recordReadsSpec)

/-- ITS FALSE NEIGHBOUR: 'it returns false'. Refute it at one input. -/
def recordReadsWrong : ChangeSpec := { name := "recordReads", fn := fun _ => fun
  | [d1, d2] => { results := [.lit (.bool false)], args := [d1, d2] }
  | _ => none }
def RecordReadsWrongFalsely : Prop := recordReadsRow.holds Try.pinned (OpenSpec.ofChange recordReadsWrong)

/-- 'granarylaw3.RecordRecords': WHATEVER THE INPUT: true; the input reads as it did. -/
def recordRecordsSpec : ChangeSpec := { name := "recordRecords", fn := fun _ => fun
  | [d] => { results := [.lit (.bool true)], args := [d] }
  | _ => none }
def recordRecordsRow : OpenClaim := { program := "ytkfhedppnlocpaa", sum := "47bd5a15d3968f6f0cc7aaba6e7cdf66db3fbf16ee52e4c80d9bed19f7414419", func := "granary/granarylaw3.RecordRecords", spec := "recordRecords", inPlace := ["internal/abi.NoEscape", "internal/bytealg.MakeNoZero"], unfollowed := true, recurses := true, apart := false }
def RecordRecordsSaid : Prop := recordRecordsRow.holds Try.pinned (OpenSpec.ofChange recordRecordsSpec)

/-- ITS FALSE NEIGHBOUR: 'it returns false'. Refute it at one input. -/
def recordRecordsWrong : ChangeSpec := { name := "recordRecords", fn := fun _ => fun
  | [d] => { results := [.lit (.bool false)], args := [d] }
  | _ => none }
def RecordRecordsWrongFalsely : Prop := recordRecordsRow.holds Try.pinned (OpenSpec.ofChange recordRecordsWrong)

/-- 'granarylaw3.RecordDecodes': WHATEVER THE INPUT: true; the input reads as it did. -/
def recordDecodesSpec : ChangeSpec := { name := "recordDecodes", fn := fun _ => fun
  | [d1, d2] => { results := [.lit (.bool true)], args := [d1, d2] }
  | _ => none }
def recordDecodesRow : OpenClaim := { program := "ytkfhedppnlocpaa", sum := "47bd5a15d3968f6f0cc7aaba6e7cdf66db3fbf16ee52e4c80d9bed19f7414419", func := "granary/granarylaw3.RecordDecodes", spec := "recordDecodes", unfollowed := true, recurses := true, apart := false }
def RecordDecodesSaid : Prop := recordDecodesRow.holds Try.pinned (OpenSpec.ofChange recordDecodesSpec)

/-- ITS FALSE NEIGHBOUR: 'it returns false'. Refute it at one input. -/
def recordDecodesWrong : ChangeSpec := { name := "recordDecodes", fn := fun _ => fun
  | [d1, d2] => { results := [.lit (.bool false)], args := [d1, d2] }
  | _ => none }
def RecordDecodesWrongFalsely : Prop := recordDecodesRow.holds Try.pinned (OpenSpec.ofChange recordDecodesWrong)

/-- 'granarylaw3.RecordEncodes': WHATEVER THE INPUT: true; the input reads as it did. -/
def recordEncodesSpec : ChangeSpec := { name := "recordEncodes", fn := fun _ => fun
  | [d1, d2] => { results := [.lit (.bool true)], args := [d1, d2] }
  | _ => none }
def recordEncodesRow : OpenClaim := { program := "ytkfhedppnlocpaa", sum := "47bd5a15d3968f6f0cc7aaba6e7cdf66db3fbf16ee52e4c80d9bed19f7414419", func := "granary/granarylaw3.RecordEncodes", spec := "recordEncodes", inPlace := ["internal/abi.NoEscape", "internal/bytealg.MakeNoZero"], unfollowed := true, recurses := true, apart := false }
def RecordEncodesSaid : Prop := recordEncodesRow.holds Try.pinned (OpenSpec.ofChange recordEncodesSpec)

/-- ITS FALSE NEIGHBOUR: 'it returns false'. Refute it at one input. -/
def recordEncodesWrong : ChangeSpec := { name := "recordEncodes", fn := fun _ => fun
  | [d1, d2] => { results := [.lit (.bool false)], args := [d1, d2] }
  | _ => none }
def RecordEncodesWrongFalsely : Prop := recordEncodesRow.holds Try.pinned (OpenSpec.ofChange recordEncodesWrong)

/-- 'granarylaw3.RecordLookups': WHATEVER THE INPUT: true; the input reads as it did. -/
def recordLookupsSpec : ChangeSpec := { name := "recordLookups", fn := fun _ => fun
  | [d1, d2, d3, d4] => { results := [.lit (.bool true)], args := [d1, d2, d3, d4] }
  | _ => none }
def recordLookupsRow : OpenClaim := { program := "ytkfhedppnlocpaa", sum := "47bd5a15d3968f6f0cc7aaba6e7cdf66db3fbf16ee52e4c80d9bed19f7414419", func := "granary/granarylaw3.RecordLookups", spec := "recordLookups", unfollowed := true, recurses := true, apart := false }
def RecordLookupsSaid : Prop := recordLookupsRow.holds Try.pinned (OpenSpec.ofChange recordLookupsSpec)

/-- ITS FALSE NEIGHBOUR: 'it returns false'. Refute it at one input. -/
def recordLookupsWrong : ChangeSpec := { name := "recordLookups", fn := fun _ => fun
  | [d1, d2, d3, d4] => { results := [.lit (.bool false)], args := [d1, d2, d3, d4] }
  | _ => none }
def RecordLookupsWrongFalsely : Prop := recordLookupsRow.holds Try.pinned (OpenSpec.ofChange recordLookupsWrong)

/-- 'granarylaw3.RecordJoins': WHATEVER THE INPUT: true; the input reads as it did. -/
def recordJoinsSpec : ChangeSpec := { name := "recordJoins", fn := fun _ => fun
  | [d1, d2] => { results := [.lit (.bool true)], args := [d1, d2] }
  | _ => none }
def recordJoinsRow : OpenClaim := { program := "ytkfhedppnlocpaa", sum := "47bd5a15d3968f6f0cc7aaba6e7cdf66db3fbf16ee52e4c80d9bed19f7414419", func := "granary/granarylaw3.RecordJoins", spec := "recordJoins", inPlace := ["internal/abi.NoEscape", "internal/bytealg.MakeNoZero"], unfollowed := true, recurses := true, apart := false }
def RecordJoinsSaid : Prop := recordJoinsRow.holds Try.pinned (OpenSpec.ofChange recordJoinsSpec)

/-- ITS FALSE NEIGHBOUR: 'it returns false'. Refute it at one input. -/
def recordJoinsWrong : ChangeSpec := { name := "recordJoins", fn := fun _ => fun
  | [d1, d2] => { results := [.lit (.bool false)], args := [d1, d2] }
  | _ => none }
def RecordJoinsWrongFalsely : Prop := recordJoinsRow.holds Try.pinned (OpenSpec.ofChange recordJoinsWrong)

/-- 'granarylaw3.RecordOnly': WHATEVER THE INPUT: true; the input reads as it did. -/
def recordOnlySpec : ChangeSpec := { name := "recordOnly", fn := fun _ => fun
  | [d1, d2, d3, d4] => { results := [.lit (.bool true)], args := [d1, d2, d3, d4] }
  | _ => none }
def recordOnlyRow : OpenClaim := { program := "ytkfhedppnlocpaa", sum := "47bd5a15d3968f6f0cc7aaba6e7cdf66db3fbf16ee52e4c80d9bed19f7414419", func := "granary/granarylaw3.RecordOnly", spec := "recordOnly", inPlace := ["internal/abi.NoEscape", "internal/bytealg.MakeNoZero"], unfollowed := true, recurses := true, apart := false }
def RecordOnlySaid : Prop := recordOnlyRow.holds Try.pinned (OpenSpec.ofChange recordOnlySpec)

/-- ITS FALSE NEIGHBOUR: 'it returns false'. Refute it at one input. -/
def recordOnlyWrong : ChangeSpec := { name := "recordOnly", fn := fun _ => fun
  | [d1, d2, d3, d4] => { results := [.lit (.bool false)], args := [d1, d2, d3, d4] }
  | _ => none }
def RecordOnlyWrongFalsely : Prop := recordOnlyRow.holds Try.pinned (OpenSpec.ofChange recordOnlyWrong)

/-- 'granarylaw3.RecordApart': WHATEVER THE INPUT: true; the input reads as it did. -/
def recordApartSpec : ChangeSpec := { name := "recordApart", fn := fun _ => fun
  | [d1, d2] => { results := [.lit (.bool true)], args := [d1, d2] }
  | _ => none }
def recordApartRow : OpenClaim := { program := "ytkfhedppnlocpaa", sum := "47bd5a15d3968f6f0cc7aaba6e7cdf66db3fbf16ee52e4c80d9bed19f7414419", func := "granary/granarylaw3.RecordApart", spec := "recordApart", inPlace := ["internal/abi.NoEscape", "internal/bytealg.MakeNoZero"], unfollowed := true, recurses := true, apart := false }
def RecordApartSaid : Prop := recordApartRow.holds Try.pinned (OpenSpec.ofChange recordApartSpec)

/-- ITS FALSE NEIGHBOUR: 'it returns false'. Refute it at one input. -/
def recordApartWrong : ChangeSpec := { name := "recordApart", fn := fun _ => fun
  | [d1, d2] => { results := [.lit (.bool false)], args := [d1, d2] }
  | _ => none }
def RecordApartWrongFalsely : Prop := recordApartRow.holds Try.pinned (OpenSpec.ofChange recordApartWrong)

/-- 'granarylaw3.RecordKeeps': WHATEVER THE INPUT: true; the input reads as it did. -/
def recordKeepsSpec : ChangeSpec := { name := "recordKeeps", fn := fun _ => fun
  | [d1, d2, d3] => { results := [.lit (.bool true)], args := [d1, d2, d3] }
  | _ => none }
def recordKeepsRow : OpenClaim := { program := "ytkfhedppnlocpaa", sum := "47bd5a15d3968f6f0cc7aaba6e7cdf66db3fbf16ee52e4c80d9bed19f7414419", func := "granary/granarylaw3.RecordKeeps", spec := "recordKeeps", inPlace := ["internal/abi.NoEscape", "internal/bytealg.MakeNoZero"], unfollowed := true, recurses := true, apart := false }
def RecordKeepsSaid : Prop := recordKeepsRow.holds Try.pinned (OpenSpec.ofChange recordKeepsSpec)

/-- ITS FALSE NEIGHBOUR: 'it returns false'. Refute it at one input. -/
def recordKeepsWrong : ChangeSpec := { name := "recordKeeps", fn := fun _ => fun
  | [d1, d2, d3] => { results := [.lit (.bool false)], args := [d1, d2, d3] }
  | _ => none }
def RecordKeepsWrongFalsely : Prop := recordKeepsRow.holds Try.pinned (OpenSpec.ofChange recordKeepsWrong)

/- THE SECOND FORM. 'bulk': how many values and letters a reading holds, each counted each time it is reached (what is shared counts as often as it is met; a slice's spare places count too). A statement '..UptoSaid' is the law's where the arguments, and the package variables that the reading takes, are together of bulk at most 1048576: NARROWER than '..Said'. Prove '..Said' where nothing that the law and all that it calls make is longer than what came in: it says more and counts as full. Else prove '..UptoSaid'. A law counts once. -/
mutual
def uptoBulk {H : Type} : DataW H → Nat
  | .lit (.string bytes) => bytes.length + 1
  | .lit _ => 1
  | .nil => 1
  | .ptr d => uptoBulk d + 1
  | .slice elems spare => uptoBulkAll elems + uptoBulkAll spare + 1
  | .agg parts => uptoBulkAll parts + 1
  | .iface _ d => uptoBulk d + 1
  | .map entries => uptoBulkEntries entries + 1
  | .held _ => 1
def uptoBulkAll {H : Type} : List (DataW H) → Nat
  | [] => 0
  | d :: r => uptoBulk d + uptoBulkAll r
def uptoBulkEntries {H : Type} : List (Lit × DataW H) → Nat
  | [] => 0
  | x :: r => uptoBulkEntry x + uptoBulkEntries r
def uptoBulkEntry {H : Type} : Lit × DataW H → Nat
  | (.string bytes, d) => bytes.length + uptoBulk d + 1
  | (_, d) => uptoBulk d + 1
 end
def uptoSmall : (H : Type) → List (DataW H) → Bool := fun _ ds => decide (uptoBulkAll ds ≤ 1048576)
def OpenSpec.upto (s : _root_.Go.ChangeSpec) : _root_.Go.OpenSpec := { _root_.Go.OpenSpec.ofChange s with cond := some uptoSmall }

/-- 'granarylaw3.RecordNumbers', WHERE WHAT IT READS IS OF BULK AT MOST 1048576: true; the input reads as it did. -/
def recordNumbersUptoRow : OpenClaim := { program := "ytkfhedppnlocpaa", sum := "47bd5a15d3968f6f0cc7aaba6e7cdf66db3fbf16ee52e4c80d9bed19f7414419", func := "granary/granarylaw3.RecordNumbers", spec := "recordNumbers", inPlace := ["internal/abi.NoEscape"], apart := false, narrowed := true }
def RecordNumbersUptoSaid : Prop := recordNumbersUptoRow.holds Try.pinned (OpenSpec.upto recordNumbersSpec)

/-- 'granarylaw3.RecordDigits', WHERE WHAT IT READS IS OF BULK AT MOST 1048576: true; the input reads as it did. -/
def recordDigitsUptoRow : OpenClaim := { program := "ytkfhedppnlocpaa", sum := "47bd5a15d3968f6f0cc7aaba6e7cdf66db3fbf16ee52e4c80d9bed19f7414419", func := "granary/granarylaw3.RecordDigits", spec := "recordDigits", inPlace := ["internal/abi.NoEscape"], apart := false, narrowed := true }
def RecordDigitsUptoSaid : Prop := recordDigitsUptoRow.holds Try.pinned (OpenSpec.upto recordDigitsSpec)

/-- 'granarylaw3.RecordEntries', WHERE WHAT IT READS IS OF BULK AT MOST 1048576: true; the input reads as it did. -/
def recordEntriesUptoRow : OpenClaim := { program := "ytkfhedppnlocpaa", sum := "47bd5a15d3968f6f0cc7aaba6e7cdf66db3fbf16ee52e4c80d9bed19f7414419", func := "granary/granarylaw3.RecordEntries", spec := "recordEntries", inPlace := ["internal/abi.NoEscape"], apart := false, narrowed := true }
def RecordEntriesUptoSaid : Prop := recordEntriesUptoRow.holds Try.pinned (OpenSpec.upto recordEntriesSpec)

/-- 'granarylaw3.RecordReads', WHERE WHAT IT READS IS OF BULK AT MOST 1048576: true; the input reads as it did. -/
def recordReadsUptoRow : OpenClaim := { program := "ytkfhedppnlocpaa", sum := "47bd5a15d3968f6f0cc7aaba6e7cdf66db3fbf16ee52e4c80d9bed19f7414419", func := "granary/granarylaw3.RecordReads", spec := "recordReads", unfollowed := true, recurses := true, apart := false, narrowed := true }
def RecordReadsUptoSaid : Prop := recordReadsUptoRow.holds Try.pinned (OpenSpec.upto recordReadsSpec)

/-- 'granarylaw3.RecordRecords', WHERE WHAT IT READS IS OF BULK AT MOST 1048576: true; the input reads as it did. -/
def recordRecordsUptoRow : OpenClaim := { program := "ytkfhedppnlocpaa", sum := "47bd5a15d3968f6f0cc7aaba6e7cdf66db3fbf16ee52e4c80d9bed19f7414419", func := "granary/granarylaw3.RecordRecords", spec := "recordRecords", inPlace := ["internal/abi.NoEscape", "internal/bytealg.MakeNoZero"], unfollowed := true, recurses := true, apart := false, narrowed := true }
def RecordRecordsUptoSaid : Prop := recordRecordsUptoRow.holds Try.pinned (OpenSpec.upto recordRecordsSpec)

/-- 'granarylaw3.RecordDecodes', WHERE WHAT IT READS IS OF BULK AT MOST 1048576: true; the input reads as it did. -/
def recordDecodesUptoRow : OpenClaim := { program := "ytkfhedppnlocpaa", sum := "47bd5a15d3968f6f0cc7aaba6e7cdf66db3fbf16ee52e4c80d9bed19f7414419", func := "granary/granarylaw3.RecordDecodes", spec := "recordDecodes", unfollowed := true, recurses := true, apart := false, narrowed := true }
def RecordDecodesUptoSaid : Prop := recordDecodesUptoRow.holds Try.pinned (OpenSpec.upto recordDecodesSpec)

/-- 'granarylaw3.RecordEncodes', WHERE WHAT IT READS IS OF BULK AT MOST 1048576: true; the input reads as it did. -/
def recordEncodesUptoRow : OpenClaim := { program := "ytkfhedppnlocpaa", sum := "47bd5a15d3968f6f0cc7aaba6e7cdf66db3fbf16ee52e4c80d9bed19f7414419", func := "granary/granarylaw3.RecordEncodes", spec := "recordEncodes", inPlace := ["internal/abi.NoEscape", "internal/bytealg.MakeNoZero"], unfollowed := true, recurses := true, apart := false, narrowed := true }
def RecordEncodesUptoSaid : Prop := recordEncodesUptoRow.holds Try.pinned (OpenSpec.upto recordEncodesSpec)

/-- 'granarylaw3.RecordLookups', WHERE WHAT IT READS IS OF BULK AT MOST 1048576: true; the input reads as it did. -/
def recordLookupsUptoRow : OpenClaim := { program := "ytkfhedppnlocpaa", sum := "47bd5a15d3968f6f0cc7aaba6e7cdf66db3fbf16ee52e4c80d9bed19f7414419", func := "granary/granarylaw3.RecordLookups", spec := "recordLookups", unfollowed := true, recurses := true, apart := false, narrowed := true }
def RecordLookupsUptoSaid : Prop := recordLookupsUptoRow.holds Try.pinned (OpenSpec.upto recordLookupsSpec)

/-- 'granarylaw3.RecordJoins', WHERE WHAT IT READS IS OF BULK AT MOST 1048576: true; the input reads as it did. -/
def recordJoinsUptoRow : OpenClaim := { program := "ytkfhedppnlocpaa", sum := "47bd5a15d3968f6f0cc7aaba6e7cdf66db3fbf16ee52e4c80d9bed19f7414419", func := "granary/granarylaw3.RecordJoins", spec := "recordJoins", inPlace := ["internal/abi.NoEscape", "internal/bytealg.MakeNoZero"], unfollowed := true, recurses := true, apart := false, narrowed := true }
def RecordJoinsUptoSaid : Prop := recordJoinsUptoRow.holds Try.pinned (OpenSpec.upto recordJoinsSpec)

/-- 'granarylaw3.RecordOnly', WHERE WHAT IT READS IS OF BULK AT MOST 1048576: true; the input reads as it did. -/
def recordOnlyUptoRow : OpenClaim := { program := "ytkfhedppnlocpaa", sum := "47bd5a15d3968f6f0cc7aaba6e7cdf66db3fbf16ee52e4c80d9bed19f7414419", func := "granary/granarylaw3.RecordOnly", spec := "recordOnly", inPlace := ["internal/abi.NoEscape", "internal/bytealg.MakeNoZero"], unfollowed := true, recurses := true, apart := false, narrowed := true }
def RecordOnlyUptoSaid : Prop := recordOnlyUptoRow.holds Try.pinned (OpenSpec.upto recordOnlySpec)

/-- 'granarylaw3.RecordApart', WHERE WHAT IT READS IS OF BULK AT MOST 1048576: true; the input reads as it did. -/
def recordApartUptoRow : OpenClaim := { program := "ytkfhedppnlocpaa", sum := "47bd5a15d3968f6f0cc7aaba6e7cdf66db3fbf16ee52e4c80d9bed19f7414419", func := "granary/granarylaw3.RecordApart", spec := "recordApart", inPlace := ["internal/abi.NoEscape", "internal/bytealg.MakeNoZero"], unfollowed := true, recurses := true, apart := false, narrowed := true }
def RecordApartUptoSaid : Prop := recordApartUptoRow.holds Try.pinned (OpenSpec.upto recordApartSpec)

/-- 'granarylaw3.RecordKeeps', WHERE WHAT IT READS IS OF BULK AT MOST 1048576: true; the input reads as it did. -/
def recordKeepsUptoRow : OpenClaim := { program := "ytkfhedppnlocpaa", sum := "47bd5a15d3968f6f0cc7aaba6e7cdf66db3fbf16ee52e4c80d9bed19f7414419", func := "granary/granarylaw3.RecordKeeps", spec := "recordKeeps", inPlace := ["internal/abi.NoEscape", "internal/bytealg.MakeNoZero"], unfollowed := true, recurses := true, apart := false, narrowed := true }
def RecordKeepsUptoSaid : Prop := recordKeepsUptoRow.holds Try.pinned (OpenSpec.upto recordKeepsSpec)

end Rows
end Go.Proofs.Ytkfhedppnlocpaa
