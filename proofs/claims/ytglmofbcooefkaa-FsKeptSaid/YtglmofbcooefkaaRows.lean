/-
  No cell of these rows narrows 'for every input' (looked for: loops, veiled, ifaces, maps, wideKeys, modest, calm, conditions, laid).
  DERIVED. THE GIVEN ROWS OF THIS SEAT. 2 by the template 'for every input the law returns true; each argument reads behind the call as it read before'; 0 by the template 'total and deterministic' (their statements: YtglmofbcooefkaaTotals.lean).
  GIVEN WITH THE SEED: the statements are not yours to turn. If you find one false, say at which input.
  Laid BY PROGRAM, IN A SANDBOX (cutbox-rows.mjs): the forced cells as the released guide's own fill.sh prints them over the translation 57989f7b0af6e2f2… (all of the seat's roots in one cut). By AI agents, Wed Nov 11 2026. No macro, syntax, notation, axiom, sorry.
-/
import Derived.Test.YtglmofbcooefkaaChecked
import GoSem.Claim
import GoSem.ClaimJoined
import GoSem.ClaimMapViews
import Derived.JoinedTies
import Derived.KernelRfl
namespace Go.Proofs.Ytglmofbcooefkaa
/- THE CELL 'sum', in the pinned program and in every row, IS THE sha256 OF THE DUMP (.gsa) THAT YtglmofbcooefkaaProg.lean LOADS. Nothing in Lean hashes anything: it is a label: what it is worth is what the hold of that sum in a sandbox is worth. -/
noncomputable def Try.pinned : Pinned := { name := "ytglmofbcooefkaa", sum := "57989f7b0af6e2f26bccba67375858a874db5ffe8b601ee28fe05568f3459883", checked := Try.checked }
namespace Rows
def none {H : Type} : Left H := { results := [], args := [] }

/-- 'chainmanlaw04.FsKept': WHATEVER THE INPUT: true; the input reads as it did. -/
def fsKeptSpec : ChangeSpec := { name := "fsKept", fn := fun _ => fun
  | [d1, d2, d3, d4] => { results := [.lit (.bool true)], args := [d1, d2, d3, d4] }
  | _ => none }
def fsKeptRow : OpenClaim := { program := "ytglmofbcooefkaa", sum := "57989f7b0af6e2f26bccba67375858a874db5ffe8b601ee28fe05568f3459883", func := "chainman/chainmanlaw04.FsKept", spec := "fsKept", inPlace := ["maps.clone"], unfollowed := true, recurses := true, apart := false }
def FsKeptSaid : Prop := fsKeptRow.holds Try.pinned (OpenSpec.ofChange fsKeptSpec)

/-- ITS FALSE NEIGHBOUR: 'it returns false'. Refute it at one input. -/
def fsKeptWrong : ChangeSpec := { name := "fsKept", fn := fun _ => fun
  | [d1, d2, d3, d4] => { results := [.lit (.bool false)], args := [d1, d2, d3, d4] }
  | _ => none }
def FsKeptWrongFalsely : Prop := fsKeptRow.holds Try.pinned (OpenSpec.ofChange fsKeptWrong)

/-- 'chainmanlaw04.FsNobody': WHATEVER THE INPUT: true; the input reads as it did. -/
def fsNobodySpec : ChangeSpec := { name := "fsNobody", fn := fun _ => fun
  | [d] => { results := [.lit (.bool true)], args := [d] }
  | _ => none }
def fsNobodyRow : OpenClaim := { program := "ytglmofbcooefkaa", sum := "57989f7b0af6e2f26bccba67375858a874db5ffe8b601ee28fe05568f3459883", func := "chainman/chainmanlaw04.FsNobody", spec := "fsNobody", inPlace := ["maps.clone"], unfollowed := true, recurses := true, apart := false }
def FsNobodySaid : Prop := fsNobodyRow.holds Try.pinned (OpenSpec.ofChange fsNobodySpec)

/-- ITS FALSE NEIGHBOUR: 'it returns false'. Refute it at one input. -/
def fsNobodyWrong : ChangeSpec := { name := "fsNobody", fn := fun _ => fun
  | [d] => { results := [.lit (.bool false)], args := [d] }
  | _ => none }
def FsNobodyWrongFalsely : Prop := fsNobodyRow.holds Try.pinned (OpenSpec.ofChange fsNobodyWrong)

/- THE SECOND FORM. 'bulk': how many values and letters a reading holds, each counted each time it is reached (what is shared counts as often as it is met; a slice's spare places count too). A statement '..UptoSaid' is the law's where the arguments, and the package variables that the reading takes, are together of bulk at most 1048576: NARROWER than '..Said'. Prove '..Said' where nothing that the law and all that it calls make is longer than what came in: it says more and counts as full. Else prove '..UptoSaid'. A law counts once. -/
mutual
def uptoBulk {H : Type} : DataW H → Nat
  | .lit (.string bytes) => bytes.length + 1
  | .lit _ => 1
  | .nil => 1
  | .ptr d => uptoBulk d + 1
  | .slice elems spare => uptoBulkAll elems + uptoBulkAll spare + 1
  | .agg parts => uptoBulkAll parts + 1
  | .iface _ d => uptoBulk d + 1
  | .map entries => uptoBulkEntries entries + 1
  | .held _ => 1
def uptoBulkAll {H : Type} : List (DataW H) → Nat
  | [] => 0
  | d :: r => uptoBulk d + uptoBulkAll r
def uptoBulkEntries {H : Type} : List (Lit × DataW H) → Nat
  | [] => 0
  | x :: r => uptoBulkEntry x + uptoBulkEntries r
def uptoBulkEntry {H : Type} : Lit × DataW H → Nat
  | (.string bytes, d) => bytes.length + uptoBulk d + 1
  | (_, d) => uptoBulk d + 1
 end
def uptoSmall : (H : Type) → List (DataW H) → Bool := fun _ ds => decide (uptoBulkAll ds ≤ 1048576)
def OpenSpec.upto (s : _root_.Go.ChangeSpec) : _root_.Go.OpenSpec := { _root_.Go.OpenSpec.ofChange s with cond := some uptoSmall }

/-- 'chainmanlaw04.FsKept', WHERE WHAT IT READS IS OF BULK AT MOST 1048576: true; the input reads as it did. -/
def fsKeptUptoRow : OpenClaim := { program := "ytglmofbcooefkaa", sum := "57989f7b0af6e2f26bccba67375858a874db5ffe8b601ee28fe05568f3459883", func := "chainman/chainmanlaw04.FsKept", spec := "fsKept", inPlace := ["maps.clone"], unfollowed := true, recurses := true, apart := false, narrowed := true }
def FsKeptUptoSaid : Prop := fsKeptUptoRow.holds Try.pinned (OpenSpec.upto fsKeptSpec)

/-- 'chainmanlaw04.FsNobody', WHERE WHAT IT READS IS OF BULK AT MOST 1048576: true; the input reads as it did. -/
def fsNobodyUptoRow : OpenClaim := { program := "ytglmofbcooefkaa", sum := "57989f7b0af6e2f26bccba67375858a874db5ffe8b601ee28fe05568f3459883", func := "chainman/chainmanlaw04.FsNobody", spec := "fsNobody", inPlace := ["maps.clone"], unfollowed := true, recurses := true, apart := false, narrowed := true }
def FsNobodyUptoSaid : Prop := fsNobodyUptoRow.holds Try.pinned (OpenSpec.upto fsNobodySpec)

end Rows
end Go.Proofs.Ytglmofbcooefkaa
