/-
  No cell of these rows narrows 'for every input' (looked for: loops, veiled, ifaces, maps, wideKeys, modest, calm, conditions, laid).
  DERIVED. THE GIVEN ROWS OF THIS SEAT. 8 by the template 'for every input the law returns true; each argument reads behind the call as it read before'; 0 by the template 'total and deterministic' (their statements: YtpjocohpogihcaaTotals.lean).
  GIVEN WITH THE SEED: the statements are not yours to turn. If you find one false, say at which input.
  Laid BY PROGRAM, IN A SANDBOX (cutbox-rows.mjs): the forced cells as the released guide's own fill.sh prints them over the translation 83bfcfd83a58662c… (all of the seat's roots in one cut). By AI agents, Wed Nov 11 2026. No macro, syntax, notation, axiom, sorry.
-/
import Derived.Test.YtpjocohpogihcaaChecked
import GoSem.Claim
import GoSem.ClaimJoined
import GoSem.ClaimMapViews
import Derived.JoinedTies
import Derived.KernelRfl
namespace Go.Proofs.Ytpjocohpogihcaa
/- THE CELL 'sum', in the pinned program and in every row, IS THE sha256 OF THE DUMP (.gsa) THAT YtpjocohpogihcaaProg.lean LOADS. Nothing in Lean hashes anything: it is a label: what it is worth is what the hold of that sum in a sandbox is worth. -/
noncomputable def Try.pinned : Pinned := { name := "ytpjocohpogihcaa", sum := "83bfcfd83a58662c4322dafcaa9da41bd2e0934a334daa1cf6b8ca981d56f975", checked := Try.checked }
namespace Rows
def none {H : Type} : Left H := { results := [], args := [] }

/-- 'chainmanlaw32.DescentTells': WHATEVER THE INPUT: true; the input reads as it did. -/
def descentTellsSpec : ChangeSpec := { name := "descentTells", fn := fun _ => fun
  | [d1, d2, d3] => { results := [.lit (.bool true)], args := [d1, d2, d3] }
  | _ => none }
def descentTellsRow : OpenClaim := { program := "ytpjocohpogihcaa", sum := "83bfcfd83a58662c4322dafcaa9da41bd2e0934a334daa1cf6b8ca981d56f975", func := "chainman/chainmanlaw32.DescentTells", spec := "descentTells", apart := false }
def DescentTellsSaid : Prop := descentTellsRow.holds Try.pinned (OpenSpec.ofChange descentTellsSpec)

/-- ITS FALSE NEIGHBOUR: 'it returns false'. Refute it at one input. -/
def descentTellsWrong : ChangeSpec := { name := "descentTells", fn := fun _ => fun
  | [d1, d2, d3] => { results := [.lit (.bool false)], args := [d1, d2, d3] }
  | _ => none }
def DescentTellsWrongFalsely : Prop := descentTellsRow.holds Try.pinned (OpenSpec.ofChange descentTellsWrong)

/-- 'chainmanlaw14.RecPuts': WHATEVER THE INPUT: true; the input reads as it did. -/
def recPutsSpec : ChangeSpec := { name := "recPuts", fn := fun _ => fun
  | [d1, d2, d3, d4] => { results := [.lit (.bool true)], args := [d1, d2, d3, d4] }
  | _ => none }
def recPutsRow : OpenClaim := { program := "ytpjocohpogihcaa", sum := "83bfcfd83a58662c4322dafcaa9da41bd2e0934a334daa1cf6b8ca981d56f975", func := "chainman/chainmanlaw14.RecPuts", spec := "recPuts", apart := false }
def RecPutsSaid : Prop := recPutsRow.holds Try.pinned (OpenSpec.ofChange recPutsSpec)

/-- ITS FALSE NEIGHBOUR: 'it returns false'. Refute it at one input. -/
def recPutsWrong : ChangeSpec := { name := "recPuts", fn := fun _ => fun
  | [d1, d2, d3, d4] => { results := [.lit (.bool false)], args := [d1, d2, d3, d4] }
  | _ => none }
def RecPutsWrongFalsely : Prop := recPutsRow.holds Try.pinned (OpenSpec.ofChange recPutsWrong)

/-- 'chainmanlaw15.LoserPlays': WHATEVER THE INPUT: true; the input reads as it did. -/
def loserPlaysSpec : ChangeSpec := { name := "loserPlays", fn := fun _ => fun
  | [d1, d2, d3] => { results := [.lit (.bool true)], args := [d1, d2, d3] }
  | _ => none }
def loserPlaysRow : OpenClaim := { program := "ytpjocohpogihcaa", sum := "83bfcfd83a58662c4322dafcaa9da41bd2e0934a334daa1cf6b8ca981d56f975", func := "chainman/chainmanlaw15.LoserPlays", spec := "loserPlays", recurses := true, apart := false }
def LoserPlaysSaid : Prop := loserPlaysRow.holds Try.pinned (OpenSpec.ofChange loserPlaysSpec)

/-- ITS FALSE NEIGHBOUR: 'it returns false'. Refute it at one input. -/
def loserPlaysWrong : ChangeSpec := { name := "loserPlays", fn := fun _ => fun
  | [d1, d2, d3] => { results := [.lit (.bool false)], args := [d1, d2, d3] }
  | _ => none }
def LoserPlaysWrongFalsely : Prop := loserPlaysRow.holds Try.pinned (OpenSpec.ofChange loserPlaysWrong)

/-- 'chainmanlaw15.LoserMerges': WHATEVER THE INPUT: true; the input reads as it did. -/
def loserMergesSpec : ChangeSpec := { name := "loserMerges", fn := fun _ => fun
  | [d] => { results := [.lit (.bool true)], args := [d] }
  | _ => none }
def loserMergesRow : OpenClaim := { program := "ytpjocohpogihcaa", sum := "83bfcfd83a58662c4322dafcaa9da41bd2e0934a334daa1cf6b8ca981d56f975", func := "chainman/chainmanlaw15.LoserMerges", spec := "loserMerges", recurses := true, apart := false }
def LoserMergesSaid : Prop := loserMergesRow.holds Try.pinned (OpenSpec.ofChange loserMergesSpec)

/-- ITS FALSE NEIGHBOUR: 'it returns false'. Refute it at one input. -/
def loserMergesWrong : ChangeSpec := { name := "loserMerges", fn := fun _ => fun
  | [d] => { results := [.lit (.bool false)], args := [d] }
  | _ => none }
def LoserMergesWrongFalsely : Prop := loserMergesRow.holds Try.pinned (OpenSpec.ofChange loserMergesWrong)

/-- 'chainmanlaw14.RecDraws': WHATEVER THE INPUT: true; the input reads as it did. -/
def recDrawsSpec : ChangeSpec := { name := "recDraws", fn := fun _ => fun
  | [d1, d2] => { results := [.lit (.bool true)], args := [d1, d2] }
  | _ => none }
def recDrawsRow : OpenClaim := { program := "ytpjocohpogihcaa", sum := "83bfcfd83a58662c4322dafcaa9da41bd2e0934a334daa1cf6b8ca981d56f975", func := "chainman/chainmanlaw14.RecDraws", spec := "recDraws", apart := false }
def RecDrawsSaid : Prop := recDrawsRow.holds Try.pinned (OpenSpec.ofChange recDrawsSpec)

/-- ITS FALSE NEIGHBOUR: 'it returns false'. Refute it at one input. -/
def recDrawsWrong : ChangeSpec := { name := "recDraws", fn := fun _ => fun
  | [d1, d2] => { results := [.lit (.bool false)], args := [d1, d2] }
  | _ => none }
def RecDrawsWrongFalsely : Prop := recDrawsRow.holds Try.pinned (OpenSpec.ofChange recDrawsWrong)

/-- 'chainmanlaw14.RecGets': WHATEVER THE INPUT: true; the input reads as it did. -/
def recGetsSpec : ChangeSpec := { name := "recGets", fn := fun _ => fun
  | [d] => { results := [.lit (.bool true)], args := [d] }
  | _ => none }
def recGetsRow : OpenClaim := { program := "ytpjocohpogihcaa", sum := "83bfcfd83a58662c4322dafcaa9da41bd2e0934a334daa1cf6b8ca981d56f975", func := "chainman/chainmanlaw14.RecGets", spec := "recGets", apart := false }
def RecGetsSaid : Prop := recGetsRow.holds Try.pinned (OpenSpec.ofChange recGetsSpec)

/-- ITS FALSE NEIGHBOUR: 'it returns false'. Refute it at one input. -/
def recGetsWrong : ChangeSpec := { name := "recGets", fn := fun _ => fun
  | [d] => { results := [.lit (.bool false)], args := [d] }
  | _ => none }
def RecGetsWrongFalsely : Prop := recGetsRow.holds Try.pinned (OpenSpec.ofChange recGetsWrong)

/-- 'chainmanlaw14.RecOrder': WHATEVER THE INPUT: true; the input reads as it did. -/
def recOrderSpec : ChangeSpec := { name := "recOrder", fn := fun _ => fun
  | [d1, d2, d3, d4, d5, d6] => { results := [.lit (.bool true)], args := [d1, d2, d3, d4, d5, d6] }
  | _ => none }
def recOrderRow : OpenClaim := { program := "ytpjocohpogihcaa", sum := "83bfcfd83a58662c4322dafcaa9da41bd2e0934a334daa1cf6b8ca981d56f975", func := "chainman/chainmanlaw14.RecOrder", spec := "recOrder", apart := false }
def RecOrderSaid : Prop := recOrderRow.holds Try.pinned (OpenSpec.ofChange recOrderSpec)

/-- ITS FALSE NEIGHBOUR: 'it returns false'. Refute it at one input. -/
def recOrderWrong : ChangeSpec := { name := "recOrder", fn := fun _ => fun
  | [d1, d2, d3, d4, d5, d6] => { results := [.lit (.bool false)], args := [d1, d2, d3, d4, d5, d6] }
  | _ => none }
def RecOrderWrongFalsely : Prop := recOrderRow.holds Try.pinned (OpenSpec.ofChange recOrderWrong)

/-- 'chainmanlaw34.SymMirrors': WHATEVER THE INPUT: true; the input reads as it did. -/
def symMirrorsSpec : ChangeSpec := { name := "symMirrors", fn := fun _ => fun
  | [d] => { results := [.lit (.bool true)], args := [d] }
  | _ => none }
def symMirrorsRow : OpenClaim := { program := "ytpjocohpogihcaa", sum := "83bfcfd83a58662c4322dafcaa9da41bd2e0934a334daa1cf6b8ca981d56f975", func := "chainman/chainmanlaw34.SymMirrors", spec := "symMirrors", unfollowed := true, recurses := true, apart := false }
def SymMirrorsSaid : Prop := symMirrorsRow.holds Try.pinned (OpenSpec.ofChange symMirrorsSpec)

/-- ITS FALSE NEIGHBOUR: 'it returns false'. Refute it at one input. -/
def symMirrorsWrong : ChangeSpec := { name := "symMirrors", fn := fun _ => fun
  | [d] => { results := [.lit (.bool false)], args := [d] }
  | _ => none }
def SymMirrorsWrongFalsely : Prop := symMirrorsRow.holds Try.pinned (OpenSpec.ofChange symMirrorsWrong)

/- THE SECOND FORM. 'bulk': how many values and letters a reading holds, each counted each time it is reached (what is shared counts as often as it is met; a slice's spare places count too). A statement '..UptoSaid' is the law's where the arguments, and the package variables that the reading takes, are together of bulk at most 1048576: NARROWER than '..Said'. Prove '..Said' where nothing that the law and all that it calls make is longer than what came in: it says more and counts as full. Else prove '..UptoSaid'. A law counts once. -/
mutual
def uptoBulk {H : Type} : DataW H → Nat
  | .lit (.string bytes) => bytes.length + 1
  | .lit _ => 1
  | .nil => 1
  | .ptr d => uptoBulk d + 1
  | .slice elems spare => uptoBulkAll elems + uptoBulkAll spare + 1
  | .agg parts => uptoBulkAll parts + 1
  | .iface _ d => uptoBulk d + 1
  | .map entries => uptoBulkEntries entries + 1
  | .held _ => 1
def uptoBulkAll {H : Type} : List (DataW H) → Nat
  | [] => 0
  | d :: r => uptoBulk d + uptoBulkAll r
def uptoBulkEntries {H : Type} : List (Lit × DataW H) → Nat
  | [] => 0
  | x :: r => uptoBulkEntry x + uptoBulkEntries r
def uptoBulkEntry {H : Type} : Lit × DataW H → Nat
  | (.string bytes, d) => bytes.length + uptoBulk d + 1
  | (_, d) => uptoBulk d + 1
 end
def uptoSmall : (H : Type) → List (DataW H) → Bool := fun _ ds => decide (uptoBulkAll ds ≤ 1048576)
def OpenSpec.upto (s : _root_.Go.ChangeSpec) : _root_.Go.OpenSpec := { _root_.Go.OpenSpec.ofChange s with cond := some uptoSmall }

/-- 'chainmanlaw32.DescentTells', WHERE WHAT IT READS IS OF BULK AT MOST 1048576: true; the input reads as it did. -/
def descentTellsUptoRow : OpenClaim := { program := "ytpjocohpogihcaa", sum := "83bfcfd83a58662c4322dafcaa9da41bd2e0934a334daa1cf6b8ca981d56f975", func := "chainman/chainmanlaw32.DescentTells", spec := "descentTells", apart := false, narrowed := true }
def DescentTellsUptoSaid : Prop := descentTellsUptoRow.holds Try.pinned (OpenSpec.upto descentTellsSpec)

/-- 'chainmanlaw14.RecPuts', WHERE WHAT IT READS IS OF BULK AT MOST 1048576: true; the input reads as it did. -/
def recPutsUptoRow : OpenClaim := { program := "ytpjocohpogihcaa", sum := "83bfcfd83a58662c4322dafcaa9da41bd2e0934a334daa1cf6b8ca981d56f975", func := "chainman/chainmanlaw14.RecPuts", spec := "recPuts", apart := false, narrowed := true }
def RecPutsUptoSaid : Prop := recPutsUptoRow.holds Try.pinned (OpenSpec.upto recPutsSpec)

/-- 'chainmanlaw15.LoserPlays', WHERE WHAT IT READS IS OF BULK AT MOST 1048576: true; the input reads as it did. -/
def loserPlaysUptoRow : OpenClaim := { program := "ytpjocohpogihcaa", sum := "83bfcfd83a58662c4322dafcaa9da41bd2e0934a334daa1cf6b8ca981d56f975", func := "chainman/chainmanlaw15.LoserPlays", spec := "loserPlays", recurses := true, apart := false, narrowed := true }
def LoserPlaysUptoSaid : Prop := loserPlaysUptoRow.holds Try.pinned (OpenSpec.upto loserPlaysSpec)

/-- 'chainmanlaw15.LoserMerges', WHERE WHAT IT READS IS OF BULK AT MOST 1048576: true; the input reads as it did. -/
def loserMergesUptoRow : OpenClaim := { program := "ytpjocohpogihcaa", sum := "83bfcfd83a58662c4322dafcaa9da41bd2e0934a334daa1cf6b8ca981d56f975", func := "chainman/chainmanlaw15.LoserMerges", spec := "loserMerges", recurses := true, apart := false, narrowed := true }
def LoserMergesUptoSaid : Prop := loserMergesUptoRow.holds Try.pinned (OpenSpec.upto loserMergesSpec)

/-- 'chainmanlaw14.RecDraws', WHERE WHAT IT READS IS OF BULK AT MOST 1048576: true; the input reads as it did. -/
def recDrawsUptoRow : OpenClaim := { program := "ytpjocohpogihcaa", sum := "83bfcfd83a58662c4322dafcaa9da41bd2e0934a334daa1cf6b8ca981d56f975", func := "chainman/chainmanlaw14.RecDraws", spec := "recDraws", apart := false, narrowed := true }
def RecDrawsUptoSaid : Prop := recDrawsUptoRow.holds Try.pinned (OpenSpec.upto recDrawsSpec)

/-- 'chainmanlaw14.RecGets', WHERE WHAT IT READS IS OF BULK AT MOST 1048576: true; the input reads as it did. -/
def recGetsUptoRow : OpenClaim := { program := "ytpjocohpogihcaa", sum := "83bfcfd83a58662c4322dafcaa9da41bd2e0934a334daa1cf6b8ca981d56f975", func := "chainman/chainmanlaw14.RecGets", spec := "recGets", apart := false, narrowed := true }
def RecGetsUptoSaid : Prop := recGetsUptoRow.holds Try.pinned (OpenSpec.upto recGetsSpec)

/-- 'chainmanlaw14.RecOrder', WHERE WHAT IT READS IS OF BULK AT MOST 1048576: true; the input reads as it did. -/
def recOrderUptoRow : OpenClaim := { program := "ytpjocohpogihcaa", sum := "83bfcfd83a58662c4322dafcaa9da41bd2e0934a334daa1cf6b8ca981d56f975", func := "chainman/chainmanlaw14.RecOrder", spec := "recOrder", apart := false, narrowed := true }
def RecOrderUptoSaid : Prop := recOrderUptoRow.holds Try.pinned (OpenSpec.upto recOrderSpec)

/-- 'chainmanlaw34.SymMirrors', WHERE WHAT IT READS IS OF BULK AT MOST 1048576: true; the input reads as it did. -/
def symMirrorsUptoRow : OpenClaim := { program := "ytpjocohpogihcaa", sum := "83bfcfd83a58662c4322dafcaa9da41bd2e0934a334daa1cf6b8ca981d56f975", func := "chainman/chainmanlaw34.SymMirrors", spec := "symMirrors", unfollowed := true, recurses := true, apart := false, narrowed := true }
def SymMirrorsUptoSaid : Prop := symMirrorsUptoRow.holds Try.pinned (OpenSpec.upto symMirrorsSpec)

end Rows
end Go.Proofs.Ytpjocohpogihcaa
