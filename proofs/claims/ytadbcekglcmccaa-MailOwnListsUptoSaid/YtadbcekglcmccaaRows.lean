/-
  No cell of these rows narrows 'for every input' (looked for: loops, veiled, ifaces, maps, wideKeys, modest, calm, conditions, laid).
  DERIVED. THE GIVEN ROWS OF THIS SEAT. 7 by the template 'for every input the law returns true; each argument reads behind the call as it read before'; 0 by the template 'total and deterministic' (their statements: YtadbcekglcmccaaTotals.lean).
  GIVEN WITH THE SEED: the statements are not yours to turn. If you find one false, say at which input.
  Laid BY PROGRAM, IN A SANDBOX (cutbox-rows.mjs): the forced cells as the released guide's own fill.sh prints them over the translation 73832a82aa6be8f8… (all of the seat's roots in one cut). By AI agents, Wed Nov 11 2026. No macro, syntax, notation, axiom, sorry.
-/
import Derived.Test.YtadbcekglcmccaaChecked
import GoSem.Claim
import GoSem.ClaimJoined
import GoSem.ClaimMapViews
import Derived.JoinedTies
import Derived.KernelRfl
namespace Go.Proofs.Ytadbcekglcmccaa
/- THE CELL 'sum', in the pinned program and in every row, IS THE sha256 OF THE DUMP (.gsa) THAT YtadbcekglcmccaaProg.lean LOADS. Nothing in Lean hashes anything: it is a label: what it is worth is what the hold of that sum in a sandbox is worth. -/
noncomputable def Try.pinned : Pinned := { name := "ytadbcekglcmccaa", sum := "73832a82aa6be8f8a7e86bca28a772dc34dae1b3268fb9acc743230b8f2c38be", checked := Try.checked }
namespace Rows
def none {H : Type} : Left H := { results := [], args := [] }

/-- 'granarylaw13.MailAnyOrder': WHATEVER THE INPUT: true; the input reads as it did. -/
def mailAnyOrderSpec : ChangeSpec := { name := "mailAnyOrder", fn := fun _ => fun
  | [d1, d2] => { results := [.lit (.bool true)], args := [d1, d2] }
  | _ => none }
def mailAnyOrderRow : OpenClaim := { program := "ytadbcekglcmccaa", sum := "73832a82aa6be8f8a7e86bca28a772dc34dae1b3268fb9acc743230b8f2c38be", func := "granary/granarylaw13.MailAnyOrder", spec := "mailAnyOrder", plainKeys := false, apart := false }
def MailAnyOrderSaid : Prop := mailAnyOrderRow.holds Try.pinned (OpenSpec.ofChange mailAnyOrderSpec)

/-- ITS FALSE NEIGHBOUR: 'it returns false'. Refute it at one input. -/
def mailAnyOrderWrong : ChangeSpec := { name := "mailAnyOrder", fn := fun _ => fun
  | [d1, d2] => { results := [.lit (.bool false)], args := [d1, d2] }
  | _ => none }
def MailAnyOrderWrongFalsely : Prop := mailAnyOrderRow.holds Try.pinned (OpenSpec.ofChange mailAnyOrderWrong)

/-- 'granarylaw13.MailCuts': WHATEVER THE INPUT: true; the input reads as it did. -/
def mailCutsSpec : ChangeSpec := { name := "mailCuts", fn := fun _ => fun
  | [d1, d2, d3] => { results := [.lit (.bool true)], args := [d1, d2, d3] }
  | _ => none }
def mailCutsRow : OpenClaim := { program := "ytadbcekglcmccaa", sum := "73832a82aa6be8f8a7e86bca28a772dc34dae1b3268fb9acc743230b8f2c38be", func := "granary/granarylaw13.MailCuts", spec := "mailCuts", plainKeys := false, apart := false }
def MailCutsSaid : Prop := mailCutsRow.holds Try.pinned (OpenSpec.ofChange mailCutsSpec)

/-- ITS FALSE NEIGHBOUR: 'it returns false'. Refute it at one input. -/
def mailCutsWrong : ChangeSpec := { name := "mailCuts", fn := fun _ => fun
  | [d1, d2, d3] => { results := [.lit (.bool false)], args := [d1, d2, d3] }
  | _ => none }
def MailCutsWrongFalsely : Prop := mailCutsRow.holds Try.pinned (OpenSpec.ofChange mailCutsWrong)

/-- 'granarylaw13.MailMoves': WHATEVER THE INPUT: true; the input reads as it did. -/
def mailMovesSpec : ChangeSpec := { name := "mailMoves", fn := fun _ => fun
  | [d1, d2] => { results := [.lit (.bool true)], args := [d1, d2] }
  | _ => none }
def mailMovesRow : OpenClaim := { program := "ytadbcekglcmccaa", sum := "73832a82aa6be8f8a7e86bca28a772dc34dae1b3268fb9acc743230b8f2c38be", func := "granary/granarylaw13.MailMoves", spec := "mailMoves", plainKeys := false, apart := false }
def MailMovesSaid : Prop := mailMovesRow.holds Try.pinned (OpenSpec.ofChange mailMovesSpec)

/-- ITS FALSE NEIGHBOUR: 'it returns false'. Refute it at one input. -/
def mailMovesWrong : ChangeSpec := { name := "mailMoves", fn := fun _ => fun
  | [d1, d2] => { results := [.lit (.bool false)], args := [d1, d2] }
  | _ => none }
def MailMovesWrongFalsely : Prop := mailMovesRow.holds Try.pinned (OpenSpec.ofChange mailMovesWrong)

/-- 'granarylaw13.MailLooks': WHATEVER THE INPUT: true; the input reads as it did. -/
def mailLooksSpec : ChangeSpec := { name := "mailLooks", fn := fun _ => fun
  | [d1, d2] => { results := [.lit (.bool true)], args := [d1, d2] }
  | _ => none }
def mailLooksRow : OpenClaim := { program := "ytadbcekglcmccaa", sum := "73832a82aa6be8f8a7e86bca28a772dc34dae1b3268fb9acc743230b8f2c38be", func := "granary/granarylaw13.MailLooks", spec := "mailLooks", plainKeys := false, apart := false }
def MailLooksSaid : Prop := mailLooksRow.holds Try.pinned (OpenSpec.ofChange mailLooksSpec)

/-- ITS FALSE NEIGHBOUR: 'it returns false'. Refute it at one input. -/
def mailLooksWrong : ChangeSpec := { name := "mailLooks", fn := fun _ => fun
  | [d1, d2] => { results := [.lit (.bool false)], args := [d1, d2] }
  | _ => none }
def MailLooksWrongFalsely : Prop := mailLooksRow.holds Try.pinned (OpenSpec.ofChange mailLooksWrong)

/-- 'granarylaw13.MailPlays': WHATEVER THE INPUT: true; the input reads as it did. -/
def mailPlaysSpec : ChangeSpec := { name := "mailPlays", fn := fun _ => fun
  | [d1, d2] => { results := [.lit (.bool true)], args := [d1, d2] }
  | _ => none }
def mailPlaysRow : OpenClaim := { program := "ytadbcekglcmccaa", sum := "73832a82aa6be8f8a7e86bca28a772dc34dae1b3268fb9acc743230b8f2c38be", func := "granary/granarylaw13.MailPlays", spec := "mailPlays", plainKeys := false, apart := false }
def MailPlaysSaid : Prop := mailPlaysRow.holds Try.pinned (OpenSpec.ofChange mailPlaysSpec)

/-- ITS FALSE NEIGHBOUR: 'it returns false'. Refute it at one input. -/
def mailPlaysWrong : ChangeSpec := { name := "mailPlays", fn := fun _ => fun
  | [d1, d2] => { results := [.lit (.bool false)], args := [d1, d2] }
  | _ => none }
def MailPlaysWrongFalsely : Prop := mailPlaysRow.holds Try.pinned (OpenSpec.ofChange mailPlaysWrong)

/-- 'granarylaw13.MailOwnLists': WHATEVER THE INPUT: true; the input reads as it did. -/
def mailOwnListsSpec : ChangeSpec := { name := "mailOwnLists", fn := fun _ => fun
  | [d1, d2] => { results := [.lit (.bool true)], args := [d1, d2] }
  | _ => none }
def mailOwnListsRow : OpenClaim := { program := "ytadbcekglcmccaa", sum := "73832a82aa6be8f8a7e86bca28a772dc34dae1b3268fb9acc743230b8f2c38be", func := "granary/granarylaw13.MailOwnLists", spec := "mailOwnLists", plainKeys := false, apart := false }
def MailOwnListsSaid : Prop := mailOwnListsRow.holds Try.pinned (OpenSpec.ofChange mailOwnListsSpec)

/-- ITS FALSE NEIGHBOUR: 'it returns false'. Refute it at one input. -/
def mailOwnListsWrong : ChangeSpec := { name := "mailOwnLists", fn := fun _ => fun
  | [d1, d2] => { results := [.lit (.bool false)], args := [d1, d2] }
  | _ => none }
def MailOwnListsWrongFalsely : Prop := mailOwnListsRow.holds Try.pinned (OpenSpec.ofChange mailOwnListsWrong)

/-- 'granarylaw13.MailHonest': WHATEVER THE INPUT: true; the input reads as it did. -/
def mailHonestSpec : ChangeSpec := { name := "mailHonest", fn := fun _ => fun
  | [d1, d2] => { results := [.lit (.bool true)], args := [d1, d2] }
  | _ => none }
def mailHonestRow : OpenClaim := { program := "ytadbcekglcmccaa", sum := "73832a82aa6be8f8a7e86bca28a772dc34dae1b3268fb9acc743230b8f2c38be", func := "granary/granarylaw13.MailHonest", spec := "mailHonest", plainKeys := false, apart := false }
def MailHonestSaid : Prop := mailHonestRow.holds Try.pinned (OpenSpec.ofChange mailHonestSpec)

/-- ITS FALSE NEIGHBOUR: 'it returns false'. Refute it at one input. -/
def mailHonestWrong : ChangeSpec := { name := "mailHonest", fn := fun _ => fun
  | [d1, d2] => { results := [.lit (.bool false)], args := [d1, d2] }
  | _ => none }
def MailHonestWrongFalsely : Prop := mailHonestRow.holds Try.pinned (OpenSpec.ofChange mailHonestWrong)

/- THE SECOND FORM. 'bulk': how many values and letters a reading holds, each counted each time it is reached (what is shared counts as often as it is met; a slice's spare places count too). A statement '..UptoSaid' is the law's where the arguments, and the package variables that the reading takes, are together of bulk at most 1048576: NARROWER than '..Said'. Prove '..Said' where nothing that the law and all that it calls make is longer than what came in: it says more and counts as full. Else prove '..UptoSaid'. A law counts once. -/
mutual
def uptoBulk {H : Type} : DataW H → Nat
  | .lit (.string bytes) => bytes.length + 1
  | .lit _ => 1
  | .nil => 1
  | .ptr d => uptoBulk d + 1
  | .slice elems spare => uptoBulkAll elems + uptoBulkAll spare + 1
  | .agg parts => uptoBulkAll parts + 1
  | .iface _ d => uptoBulk d + 1
  | .map entries => uptoBulkEntries entries + 1
  | .held _ => 1
def uptoBulkAll {H : Type} : List (DataW H) → Nat
  | [] => 0
  | d :: r => uptoBulk d + uptoBulkAll r
def uptoBulkEntries {H : Type} : List (Lit × DataW H) → Nat
  | [] => 0
  | x :: r => uptoBulkEntry x + uptoBulkEntries r
def uptoBulkEntry {H : Type} : Lit × DataW H → Nat
  | (.string bytes, d) => bytes.length + uptoBulk d + 1
  | (_, d) => uptoBulk d + 1
 end
def uptoSmall : (H : Type) → List (DataW H) → Bool := fun _ ds => decide (uptoBulkAll ds ≤ 1048576)
def OpenSpec.upto (s : _root_.Go.ChangeSpec) : _root_.Go.OpenSpec := { _root_.Go.OpenSpec.ofChange s with cond := some uptoSmall }

/-- 'granarylaw13.MailAnyOrder', WHERE WHAT IT READS IS OF BULK AT MOST 1048576: true; the input reads as it did. -/
def mailAnyOrderUptoRow : OpenClaim := { program := "ytadbcekglcmccaa", sum := "73832a82aa6be8f8a7e86bca28a772dc34dae1b3268fb9acc743230b8f2c38be", func := "granary/granarylaw13.MailAnyOrder", spec := "mailAnyOrder", plainKeys := false, apart := false, narrowed := true }
def MailAnyOrderUptoSaid : Prop := mailAnyOrderUptoRow.holds Try.pinned (OpenSpec.upto mailAnyOrderSpec)

/-- 'granarylaw13.MailCuts', WHERE WHAT IT READS IS OF BULK AT MOST 1048576: true; the input reads as it did. -/
def mailCutsUptoRow : OpenClaim := { program := "ytadbcekglcmccaa", sum := "73832a82aa6be8f8a7e86bca28a772dc34dae1b3268fb9acc743230b8f2c38be", func := "granary/granarylaw13.MailCuts", spec := "mailCuts", plainKeys := false, apart := false, narrowed := true }
def MailCutsUptoSaid : Prop := mailCutsUptoRow.holds Try.pinned (OpenSpec.upto mailCutsSpec)

/-- 'granarylaw13.MailMoves', WHERE WHAT IT READS IS OF BULK AT MOST 1048576: true; the input reads as it did. -/
def mailMovesUptoRow : OpenClaim := { program := "ytadbcekglcmccaa", sum := "73832a82aa6be8f8a7e86bca28a772dc34dae1b3268fb9acc743230b8f2c38be", func := "granary/granarylaw13.MailMoves", spec := "mailMoves", plainKeys := false, apart := false, narrowed := true }
def MailMovesUptoSaid : Prop := mailMovesUptoRow.holds Try.pinned (OpenSpec.upto mailMovesSpec)

/-- 'granarylaw13.MailLooks', WHERE WHAT IT READS IS OF BULK AT MOST 1048576: true; the input reads as it did. -/
def mailLooksUptoRow : OpenClaim := { program := "ytadbcekglcmccaa", sum := "73832a82aa6be8f8a7e86bca28a772dc34dae1b3268fb9acc743230b8f2c38be", func := "granary/granarylaw13.MailLooks", spec := "mailLooks", plainKeys := false, apart := false, narrowed := true }
def MailLooksUptoSaid : Prop := mailLooksUptoRow.holds Try.pinned (OpenSpec.upto mailLooksSpec)

/-- 'granarylaw13.MailPlays', WHERE WHAT IT READS IS OF BULK AT MOST 1048576: true; the input reads as it did. -/
def mailPlaysUptoRow : OpenClaim := { program := "ytadbcekglcmccaa", sum := "73832a82aa6be8f8a7e86bca28a772dc34dae1b3268fb9acc743230b8f2c38be", func := "granary/granarylaw13.MailPlays", spec := "mailPlays", plainKeys := false, apart := false, narrowed := true }
def MailPlaysUptoSaid : Prop := mailPlaysUptoRow.holds Try.pinned (OpenSpec.upto mailPlaysSpec)

/-- 'granarylaw13.MailOwnLists', WHERE WHAT IT READS IS OF BULK AT MOST 1048576: true; the input reads as it did. -/
def mailOwnListsUptoRow : OpenClaim := { program := "ytadbcekglcmccaa", sum := "73832a82aa6be8f8a7e86bca28a772dc34dae1b3268fb9acc743230b8f2c38be", func := "granary/granarylaw13.MailOwnLists", spec := "mailOwnLists", plainKeys := false, apart := false, narrowed := true }
def MailOwnListsUptoSaid : Prop := mailOwnListsUptoRow.holds Try.pinned (OpenSpec.upto mailOwnListsSpec)

/-- 'granarylaw13.MailHonest', WHERE WHAT IT READS IS OF BULK AT MOST 1048576: true; the input reads as it did. -/
def mailHonestUptoRow : OpenClaim := { program := "ytadbcekglcmccaa", sum := "73832a82aa6be8f8a7e86bca28a772dc34dae1b3268fb9acc743230b8f2c38be", func := "granary/granarylaw13.MailHonest", spec := "mailHonest", plainKeys := false, apart := false, narrowed := true }
def MailHonestUptoSaid : Prop := mailHonestUptoRow.holds Try.pinned (OpenSpec.upto mailHonestSpec)

end Rows
end Go.Proofs.Ytadbcekglcmccaa
