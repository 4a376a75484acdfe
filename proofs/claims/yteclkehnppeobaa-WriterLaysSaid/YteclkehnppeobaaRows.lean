/-
  No cell of these rows narrows 'for every input' (looked for: loops, veiled, ifaces, maps, wideKeys, modest, calm, conditions, laid).
  DERIVED. THE GIVEN ROWS OF THIS SEAT. 3 by the template 'for every input the law returns true; each argument reads behind the call as it read before'; 0 by the template 'total and deterministic' (their statements: YteclkehnppeobaaTotals.lean).
  GIVEN WITH THE SEED: the statements are not yours to turn. If you find one false, say at which input.
  Laid BY PROGRAM, IN A SANDBOX (cutbox-rows.mjs): the forced cells as the released guide's own fill.sh prints them over the translation e2aab95015ea427e… (all of the seat's roots in one cut). By AI agents, Wed Nov 11 2026. No macro, syntax, notation, axiom, sorry.
-/
import Derived.Test.YteclkehnppeobaaChecked
import GoSem.Claim
import GoSem.ClaimJoined
import GoSem.ClaimMapViews
import Derived.JoinedTies
import Derived.KernelRfl
namespace Go.Proofs.Yteclkehnppeobaa
/- THE CELL 'sum', in the pinned program and in every row, IS THE sha256 OF THE DUMP (.gsa) THAT YteclkehnppeobaaProg.lean LOADS. Nothing in Lean hashes anything: it is a label: what it is worth is what the hold of that sum in a sandbox is worth. -/
noncomputable def Try.pinned : Pinned := { name := "yteclkehnppeobaa", sum := "e2aab95015ea427ea849bcf1f3c02f0b714faef1317d14380108e7e8c08ceca0", checked := Try.checked }
namespace Rows
def none {H : Type} : Left H := { results := [], args := [] }

/-- 'chainmanlaw20.CommitWhole': WHATEVER THE INPUT: true; the input reads as it did. -/
def commitWholeSpec : ChangeSpec := { name := "commitWhole", fn := fun _ => fun
  | [d] => { results := [.lit (.bool true)], args := [d] }
  | _ => none }
def commitWholeRow : OpenClaim := { program := "yteclkehnppeobaa", sum := "e2aab95015ea427ea849bcf1f3c02f0b714faef1317d14380108e7e8c08ceca0", func := "chainman/chainmanlaw20.CommitWhole", spec := "commitWhole", inPlace := ["internal/abi.NoEscape"], unfollowed := true, recurses := true, apart := false }
def CommitWholeSaid : Prop := commitWholeRow.holds Try.pinned (OpenSpec.ofChange commitWholeSpec)

/-- ITS FALSE NEIGHBOUR: 'it returns false'. Refute it at one input. -/
def commitWholeWrong : ChangeSpec := { name := "commitWhole", fn := fun _ => fun
  | [d] => { results := [.lit (.bool false)], args := [d] }
  | _ => none }
def CommitWholeWrongFalsely : Prop := commitWholeRow.holds Try.pinned (OpenSpec.ofChange commitWholeWrong)

/-- 'chainmanlaw08.WriterLays': WHATEVER THE INPUT: true; the input reads as it did. -/
def writerLaysSpec : ChangeSpec := { name := "writerLays", fn := fun _ => fun
  | [d1, d2] => { results := [.lit (.bool true)], args := [d1, d2] }
  | _ => none }
def writerLaysRow : OpenClaim := { program := "yteclkehnppeobaa", sum := "e2aab95015ea427ea849bcf1f3c02f0b714faef1317d14380108e7e8c08ceca0", func := "chainman/chainmanlaw08.WriterLays", spec := "writerLays", inPlace := ["internal/abi.NoEscape", "internal/bytealg.MakeNoZero"], unfollowed := true, recurses := true, apart := false }
def WriterLaysSaid : Prop := writerLaysRow.holds Try.pinned (OpenSpec.ofChange writerLaysSpec)

/-- ITS FALSE NEIGHBOUR: 'it returns false'. Refute it at one input. -/
def writerLaysWrong : ChangeSpec := { name := "writerLays", fn := fun _ => fun
  | [d1, d2] => { results := [.lit (.bool false)], args := [d1, d2] }
  | _ => none }
def WriterLaysWrongFalsely : Prop := writerLaysRow.holds Try.pinned (OpenSpec.ofChange writerLaysWrong)

/-- 'chainmanlaw30.LocalPairs': WHATEVER THE INPUT: true; the input reads as it did. -/
def localPairsSpec : ChangeSpec := { name := "localPairs", fn := fun _ => fun
  | [d] => { results := [.lit (.bool true)], args := [d] }
  | _ => none }
def localPairsRow : OpenClaim := { program := "yteclkehnppeobaa", sum := "e2aab95015ea427ea849bcf1f3c02f0b714faef1317d14380108e7e8c08ceca0", func := "chainman/chainmanlaw30.LocalPairs", spec := "localPairs", unfollowed := true, recurses := true, apart := false }
def LocalPairsSaid : Prop := localPairsRow.holds Try.pinned (OpenSpec.ofChange localPairsSpec)

/-- ITS FALSE NEIGHBOUR: 'it returns false'. Refute it at one input. -/
def localPairsWrong : ChangeSpec := { name := "localPairs", fn := fun _ => fun
  | [d] => { results := [.lit (.bool false)], args := [d] }
  | _ => none }
def LocalPairsWrongFalsely : Prop := localPairsRow.holds Try.pinned (OpenSpec.ofChange localPairsWrong)

/- THE SECOND FORM. 'bulk': how many values and letters a reading holds, each counted each time it is reached (what is shared counts as often as it is met; a slice's spare places count too). A statement '..UptoSaid' is the law's where the arguments, and the package variables that the reading takes, are together of bulk at most 1048576: NARROWER than '..Said'. Prove '..Said' where nothing that the law and all that it calls make is longer than what came in: it says more and counts as full. Else prove '..UptoSaid'. A law counts once. -/
mutual
def uptoBulk {H : Type} : DataW H → Nat
  | .lit (.string bytes) => bytes.length + 1
  | .lit _ => 1
  | .nil => 1
  | .ptr d => uptoBulk d + 1
  | .slice elems spare => uptoBulkAll elems + uptoBulkAll spare + 1
  | .agg parts => uptoBulkAll parts + 1
  | .iface _ d => uptoBulk d + 1
  | .map entries => uptoBulkEntries entries + 1
  | .held _ => 1
def uptoBulkAll {H : Type} : List (DataW H) → Nat
  | [] => 0
  | d :: r => uptoBulk d + uptoBulkAll r
def uptoBulkEntries {H : Type} : List (Lit × DataW H) → Nat
  | [] => 0
  | x :: r => uptoBulkEntry x + uptoBulkEntries r
def uptoBulkEntry {H : Type} : Lit × DataW H → Nat
  | (.string bytes, d) => bytes.length + uptoBulk d + 1
  | (_, d) => uptoBulk d + 1
 end
def uptoSmall : (H : Type) → List (DataW H) → Bool := fun _ ds => decide (uptoBulkAll ds ≤ 1048576)
def OpenSpec.upto (s : _root_.Go.ChangeSpec) : _root_.Go.OpenSpec := { _root_.Go.OpenSpec.ofChange s with cond := some uptoSmall }

/-- 'chainmanlaw20.CommitWhole', WHERE WHAT IT READS IS OF BULK AT MOST 1048576: true; the input reads as it did. -/
def commitWholeUptoRow : OpenClaim := { program := "yteclkehnppeobaa", sum := "e2aab95015ea427ea849bcf1f3c02f0b714faef1317d14380108e7e8c08ceca0", func := "chainman/chainmanlaw20.CommitWhole", spec := "commitWhole", inPlace := ["internal/abi.NoEscape"], unfollowed := true, recurses := true, apart := false, narrowed := true }
def CommitWholeUptoSaid : Prop := commitWholeUptoRow.holds Try.pinned (OpenSpec.upto commitWholeSpec)

/-- 'chainmanlaw08.WriterLays', WHERE WHAT IT READS IS OF BULK AT MOST 1048576: true; the input reads as it did. -/
def writerLaysUptoRow : OpenClaim := { program := "yteclkehnppeobaa", sum := "e2aab95015ea427ea849bcf1f3c02f0b714faef1317d14380108e7e8c08ceca0", func := "chainman/chainmanlaw08.WriterLays", spec := "writerLays", inPlace := ["internal/abi.NoEscape", "internal/bytealg.MakeNoZero"], unfollowed := true, recurses := true, apart := false, narrowed := true }
def WriterLaysUptoSaid : Prop := writerLaysUptoRow.holds Try.pinned (OpenSpec.upto writerLaysSpec)

/-- 'chainmanlaw30.LocalPairs', WHERE WHAT IT READS IS OF BULK AT MOST 1048576: true; the input reads as it did. -/
def localPairsUptoRow : OpenClaim := { program := "yteclkehnppeobaa", sum := "e2aab95015ea427ea849bcf1f3c02f0b714faef1317d14380108e7e8c08ceca0", func := "chainman/chainmanlaw30.LocalPairs", spec := "localPairs", unfollowed := true, recurses := true, apart := false, narrowed := true }
def LocalPairsUptoSaid : Prop := localPairsUptoRow.holds Try.pinned (OpenSpec.upto localPairsSpec)

end Rows
end Go.Proofs.Yteclkehnppeobaa
