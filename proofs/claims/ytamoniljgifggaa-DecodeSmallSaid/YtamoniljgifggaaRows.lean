/-
  No cell of these rows narrows 'for every input' (looked for: loops, veiled, ifaces, maps, wideKeys, modest, calm, conditions, laid).
  DERIVED. THE GIVEN ROWS OF THIS SEAT. 3 by the template 'for every input the law returns true; each argument reads behind the call as it read before'; 0 by the template 'total and deterministic' (their statements: YtamoniljgifggaaTotals.lean).
  GIVEN WITH THE SEED: the statements are not yours to turn. If you find one false, say at which input.
  Laid BY PROGRAM, IN A SANDBOX (cutbox-rows.mjs): the forced cells as the released guide's own fill.sh prints them over the translation 3605dd94988c1047… (all of the seat's roots in one cut). By AI agents, Wed Nov 11 2026. No macro, syntax, notation, axiom, sorry.
-/
import Derived.Test.YtamoniljgifggaaChecked
import GoSem.Claim
import GoSem.ClaimJoined
import GoSem.ClaimMapViews
import Derived.JoinedTies
import Derived.KernelRfl
namespace Go.Proofs.Ytamoniljgifggaa
/- THE CELL 'sum', in the pinned program and in every row, IS THE sha256 OF THE DUMP (.gsa) THAT YtamoniljgifggaaProg.lean LOADS. Nothing in Lean hashes anything: it is a label: what it is worth is what the hold of that sum in a sandbox is worth. -/
noncomputable def Try.pinned : Pinned := { name := "ytamoniljgifggaa", sum := "3605dd94988c10476a14dcca5cfa8b92b8a6a1834d58194da247e42afebe3454", checked := Try.checked }
namespace Rows
def none {H : Type} : Left H := { results := [], args := [] }

/-- 'salvorlaw42.DecodeReads': WHATEVER THE INPUT: true; the input reads as it did. -/
def decodeReadsSpec : ChangeSpec := { name := "decodeReads", fn := fun _ => fun
  | [d1, d2] => { results := [.lit (.bool true)], args := [d1, d2] }
  | _ => none }
def decodeReadsRow : OpenClaim := { program := "ytamoniljgifggaa", sum := "3605dd94988c10476a14dcca5cfa8b92b8a6a1834d58194da247e42afebe3454", func := "salvor/salvorlaw42.DecodeReads", spec := "decodeReads", unfollowed := true, recurses := true, plainKeys := false, apart := false }
def DecodeReadsSaid : Prop := decodeReadsRow.holds Try.pinned (OpenSpec.ofChange decodeReadsSpec)

/-- ITS FALSE NEIGHBOUR: 'it returns false'. Refute it at one input. -/
def decodeReadsWrong : ChangeSpec := { name := "decodeReads", fn := fun _ => fun
  | [d1, d2] => { results := [.lit (.bool false)], args := [d1, d2] }
  | _ => none }
def DecodeReadsWrongFalsely : Prop := decodeReadsRow.holds Try.pinned (OpenSpec.ofChange decodeReadsWrong)

/-- 'salvorlaw42.DecodeAssigns': WHATEVER THE INPUT: true; the input reads as it did. -/
def decodeAssignsSpec : ChangeSpec := { name := "decodeAssigns", fn := fun _ => fun
  | [d1, d2, d3, d4, d5, d6] => { results := [.lit (.bool true)], args := [d1, d2, d3, d4, d5, d6] }
  | _ => none }
def decodeAssignsRow : OpenClaim := { program := "ytamoniljgifggaa", sum := "3605dd94988c10476a14dcca5cfa8b92b8a6a1834d58194da247e42afebe3454", func := "salvor/salvorlaw42.DecodeAssigns", spec := "decodeAssigns", unfollowed := true, recurses := true, plainKeys := false, apart := false }
def DecodeAssignsSaid : Prop := decodeAssignsRow.holds Try.pinned (OpenSpec.ofChange decodeAssignsSpec)

/-- ITS FALSE NEIGHBOUR: 'it returns false'. Refute it at one input. -/
def decodeAssignsWrong : ChangeSpec := { name := "decodeAssigns", fn := fun _ => fun
  | [d1, d2, d3, d4, d5, d6] => { results := [.lit (.bool false)], args := [d1, d2, d3, d4, d5, d6] }
  | _ => none }
def DecodeAssignsWrongFalsely : Prop := decodeAssignsRow.holds Try.pinned (OpenSpec.ofChange decodeAssignsWrong)

/-- 'salvorlaw42.DecodeSmall': WHATEVER THE INPUT: true; the input reads as it did. -/
def decodeSmallSpec : ChangeSpec := { name := "decodeSmall", fn := fun _ => fun
  | [] => { results := [.lit (.bool true)], args := [] }
  | _ => none }
def decodeSmallRow : OpenClaim := { program := "ytamoniljgifggaa", sum := "3605dd94988c10476a14dcca5cfa8b92b8a6a1834d58194da247e42afebe3454", func := "salvor/salvorlaw42.DecodeSmall", spec := "decodeSmall", unfollowed := true, recurses := true, plainKeys := false, apart := false }
def DecodeSmallSaid : Prop := decodeSmallRow.holds Try.pinned (OpenSpec.ofChange decodeSmallSpec)

/-- ITS FALSE NEIGHBOUR: 'it returns false'. Refute it at one input. -/
def decodeSmallWrong : ChangeSpec := { name := "decodeSmall", fn := fun _ => fun
  | [] => { results := [.lit (.bool false)], args := [] }
  | _ => none }
def DecodeSmallWrongFalsely : Prop := decodeSmallRow.holds Try.pinned (OpenSpec.ofChange decodeSmallWrong)

/- THE SECOND FORM. 'bulk': how many values and letters a reading holds, each counted each time it is reached (what is shared counts as often as it is met; a slice's spare places count too). A statement '..UptoSaid' is the law's where the arguments, and the package variables that the reading takes, are together of bulk at most 1048576: NARROWER than '..Said'. Prove '..Said' where nothing that the law and all that it calls make is longer than what came in: it says more and counts as full. Else prove '..UptoSaid'. A law counts once. -/
mutual
def uptoBulk {H : Type} : DataW H → Nat
  | .lit (.string bytes) => bytes.length + 1
  | .lit _ => 1
  | .nil => 1
  | .ptr d => uptoBulk d + 1
  | .slice elems spare => uptoBulkAll elems + uptoBulkAll spare + 1
  | .agg parts => uptoBulkAll parts + 1
  | .iface _ d => uptoBulk d + 1
  | .map entries => uptoBulkEntries entries + 1
  | .held _ => 1
def uptoBulkAll {H : Type} : List (DataW H) → Nat
  | [] => 0
  | d :: r => uptoBulk d + uptoBulkAll r
def uptoBulkEntries {H : Type} : List (Lit × DataW H) → Nat
  | [] => 0
  | x :: r => uptoBulkEntry x + uptoBulkEntries r
def uptoBulkEntry {H : Type} : Lit × DataW H → Nat
  | (.string bytes, d) => bytes.length + uptoBulk d + 1
  | (_, d) => uptoBulk d + 1
 end
def uptoSmall : (H : Type) → List (DataW H) → Bool := fun _ ds => decide (uptoBulkAll ds ≤ 1048576)
def OpenSpec.upto (s : _root_.Go.ChangeSpec) : _root_.Go.OpenSpec := { _root_.Go.OpenSpec.ofChange s with cond := some uptoSmall }

/-- 'salvorlaw42.DecodeReads', WHERE WHAT IT READS IS OF BULK AT MOST 1048576: true; the input reads as it did. -/
def decodeReadsUptoRow : OpenClaim := { program := "ytamoniljgifggaa", sum := "3605dd94988c10476a14dcca5cfa8b92b8a6a1834d58194da247e42afebe3454", func := "salvor/salvorlaw42.DecodeReads", spec := "decodeReads", unfollowed := true, recurses := true, plainKeys := false, apart := false, narrowed := true }
def DecodeReadsUptoSaid : Prop := decodeReadsUptoRow.holds Try.pinned (OpenSpec.upto decodeReadsSpec)

/-- 'salvorlaw42.DecodeAssigns', WHERE WHAT IT READS IS OF BULK AT MOST 1048576: true; the input reads as it did. -/
def decodeAssignsUptoRow : OpenClaim := { program := "ytamoniljgifggaa", sum := "3605dd94988c10476a14dcca5cfa8b92b8a6a1834d58194da247e42afebe3454", func := "salvor/salvorlaw42.DecodeAssigns", spec := "decodeAssigns", unfollowed := true, recurses := true, plainKeys := false, apart := false, narrowed := true }
def DecodeAssignsUptoSaid : Prop := decodeAssignsUptoRow.holds Try.pinned (OpenSpec.upto decodeAssignsSpec)

/-- 'salvorlaw42.DecodeSmall', WHERE WHAT IT READS IS OF BULK AT MOST 1048576: true; the input reads as it did. -/
def decodeSmallUptoRow : OpenClaim := { program := "ytamoniljgifggaa", sum := "3605dd94988c10476a14dcca5cfa8b92b8a6a1834d58194da247e42afebe3454", func := "salvor/salvorlaw42.DecodeSmall", spec := "decodeSmall", unfollowed := true, recurses := true, plainKeys := false, apart := false, narrowed := true }
def DecodeSmallUptoSaid : Prop := decodeSmallUptoRow.holds Try.pinned (OpenSpec.upto decodeSmallSpec)

end Rows
end Go.Proofs.Ytamoniljgifggaa
