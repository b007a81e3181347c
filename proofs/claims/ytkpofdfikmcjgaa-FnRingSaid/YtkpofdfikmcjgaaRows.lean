/-
  No cell of these rows narrows 'for every input' (looked for: loops, veiled, ifaces, maps, wideKeys, modest, calm, conditions, laid).
  DERIVED. THE GIVEN ROWS OF THIS SEAT. 8 by the template 'for every input the law returns true; each argument reads behind the call as it read before'; 0 by the template 'total and deterministic' (their statements: YtkpofdfikmcjgaaTotals.lean).
  GIVEN WITH THE SEED: the statements are not yours to turn. If you find one false, say at which input.
  Laid BY PROGRAM, IN A SANDBOX (cutbox-rows.mjs): the forced cells as the released guide's own fill.sh prints them over the translation 8e9e918e9be7e563… (all of the seat's roots in one cut). By AI agents, Wed Nov 11 2026. No macro, syntax, notation, axiom, sorry.
-/
import Derived.Test.YtkpofdfikmcjgaaChecked
import GoSem.Claim
import GoSem.ClaimJoined
import GoSem.ClaimMapViews
import Derived.JoinedTies
import Derived.KernelRfl
namespace Go.Proofs.Ytkpofdfikmcjgaa
/- THE CELL 'sum', in the pinned program and in every row, IS THE sha256 OF THE DUMP (.gsa) THAT YtkpofdfikmcjgaaProg.lean LOADS. Nothing in Lean hashes anything: it is a label: what it is worth is what the hold of that sum in a sandbox is worth. -/
noncomputable def Try.pinned : Pinned := { name := "ytkpofdfikmcjgaa", sum := "8e9e918e9be7e56311a3f6be53d812cd1f10db0739df614111c28da355a8ea9e", checked := Try.checked }
namespace Rows
def none {H : Type} : Left H := { results := [], args := [] }

/-- 'laws.FnExactGoodLabels': WHATEVER THE INPUT: true; the input reads as it did. -/
def fnExactGoodLabelsSpec : ChangeSpec := { name := "fnExactGoodLabels", fn := fun _ => fun
  | [d] => { results := [.lit (.bool true)], args := [d] }
  | _ => none }
def fnExactGoodLabelsRow : OpenClaim := { program := "ytkpofdfikmcjgaa", sum := "8e9e918e9be7e56311a3f6be53d812cd1f10db0739df614111c28da355a8ea9e", func := "loop.example/g00522/laws.FnExactGoodLabels", spec := "fnExactGoodLabels", apart := false }
def FnExactGoodLabelsSaid : Prop := fnExactGoodLabelsRow.holds Try.pinned (OpenSpec.ofChange fnExactGoodLabelsSpec)

/-- ITS FALSE NEIGHBOUR: 'it returns false'. Refute it at one input. -/
def fnExactGoodLabelsWrong : ChangeSpec := { name := "fnExactGoodLabels", fn := fun _ => fun
  | [d] => { results := [.lit (.bool false)], args := [d] }
  | _ => none }
def FnExactGoodLabelsWrongFalsely : Prop := fnExactGoodLabelsRow.holds Try.pinned (OpenSpec.ofChange fnExactGoodLabelsWrong)

/-- 'laws.FnExactOwnerOf': WHATEVER THE INPUT: true; the input reads as it did. -/
def fnExactOwnerOfSpec : ChangeSpec := { name := "fnExactOwnerOf", fn := fun _ => fun
  | [d1, d2] => { results := [.lit (.bool true)], args := [d1, d2] }
  | _ => none }
def fnExactOwnerOfRow : OpenClaim := { program := "ytkpofdfikmcjgaa", sum := "8e9e918e9be7e56311a3f6be53d812cd1f10db0739df614111c28da355a8ea9e", func := "loop.example/g00522/laws.FnExactOwnerOf", spec := "fnExactOwnerOf", unfollowed := true, recurses := true, apart := false }
def FnExactOwnerOfSaid : Prop := fnExactOwnerOfRow.holds Try.pinned (OpenSpec.ofChange fnExactOwnerOfSpec)

/-- ITS FALSE NEIGHBOUR: 'it returns false'. Refute it at one input. -/
def fnExactOwnerOfWrong : ChangeSpec := { name := "fnExactOwnerOf", fn := fun _ => fun
  | [d1, d2] => { results := [.lit (.bool false)], args := [d1, d2] }
  | _ => none }
def FnExactOwnerOfWrongFalsely : Prop := fnExactOwnerOfRow.holds Try.pinned (OpenSpec.ofChange fnExactOwnerOfWrong)

/-- 'laws.FnExactDropOwner': WHATEVER THE INPUT: true; the input reads as it did. -/
def fnExactDropOwnerSpec : ChangeSpec := { name := "fnExactDropOwner", fn := fun _ => fun
  | [d1, d2] => { results := [.lit (.bool true)], args := [d1, d2] }
  | _ => none }
def fnExactDropOwnerRow : OpenClaim := { program := "ytkpofdfikmcjgaa", sum := "8e9e918e9be7e56311a3f6be53d812cd1f10db0739df614111c28da355a8ea9e", func := "loop.example/g00522/laws.FnExactDropOwner", spec := "fnExactDropOwner", unfollowed := true, recurses := true, apart := false }
def FnExactDropOwnerSaid : Prop := fnExactDropOwnerRow.holds Try.pinned (OpenSpec.ofChange fnExactDropOwnerSpec)

/-- ITS FALSE NEIGHBOUR: 'it returns false'. Refute it at one input. -/
def fnExactDropOwnerWrong : ChangeSpec := { name := "fnExactDropOwner", fn := fun _ => fun
  | [d1, d2] => { results := [.lit (.bool false)], args := [d1, d2] }
  | _ => none }
def FnExactDropOwnerWrongFalsely : Prop := fnExactDropOwnerRow.holds Try.pinned (OpenSpec.ofChange fnExactDropOwnerWrong)

/-- 'laws.FnExactOwnersOf': WHATEVER THE INPUT: true; the input reads as it did. -/
def fnExactOwnersOfSpec : ChangeSpec := { name := "fnExactOwnersOf", fn := fun _ => fun
  | [d1, d2, d3] => { results := [.lit (.bool true)], args := [d1, d2, d3] }
  | _ => none }
def fnExactOwnersOfRow : OpenClaim := { program := "ytkpofdfikmcjgaa", sum := "8e9e918e9be7e56311a3f6be53d812cd1f10db0739df614111c28da355a8ea9e", func := "loop.example/g00522/laws.FnExactOwnersOf", spec := "fnExactOwnersOf", unfollowed := true, recurses := true, apart := false }
def FnExactOwnersOfSaid : Prop := fnExactOwnersOfRow.holds Try.pinned (OpenSpec.ofChange fnExactOwnersOfSpec)

/-- ITS FALSE NEIGHBOUR: 'it returns false'. Refute it at one input. -/
def fnExactOwnersOfWrong : ChangeSpec := { name := "fnExactOwnersOf", fn := fun _ => fun
  | [d1, d2, d3] => { results := [.lit (.bool false)], args := [d1, d2, d3] }
  | _ => none }
def FnExactOwnersOfWrongFalsely : Prop := fnExactOwnersOfRow.holds Try.pinned (OpenSpec.ofChange fnExactOwnersOfWrong)

/-- 'laws.FnExactLabelsText': WHATEVER THE INPUT: true; the input reads as it did. -/
def fnExactLabelsTextSpec : ChangeSpec := { name := "fnExactLabelsText", fn := fun _ => fun
  | [d] => { results := [.lit (.bool true)], args := [d] }
  | _ => none }
def fnExactLabelsTextRow : OpenClaim := { program := "ytkpofdfikmcjgaa", sum := "8e9e918e9be7e56311a3f6be53d812cd1f10db0739df614111c28da355a8ea9e", func := "loop.example/g00522/laws.FnExactLabelsText", spec := "fnExactLabelsText", inPlace := ["internal/abi.NoEscape", "internal/bytealg.MakeNoZero"], apart := false }
def FnExactLabelsTextSaid : Prop := fnExactLabelsTextRow.holds Try.pinned (OpenSpec.ofChange fnExactLabelsTextSpec)

/-- ITS FALSE NEIGHBOUR: 'it returns false'. Refute it at one input. -/
def fnExactLabelsTextWrong : ChangeSpec := { name := "fnExactLabelsText", fn := fun _ => fun
  | [d] => { results := [.lit (.bool false)], args := [d] }
  | _ => none }
def FnExactLabelsTextWrongFalsely : Prop := fnExactLabelsTextRow.holds Try.pinned (OpenSpec.ofChange fnExactLabelsTextWrong)

/-- 'laws.FnExactAddOwner': WHATEVER THE INPUT: true; the input reads as it did. -/
def fnExactAddOwnerSpec : ChangeSpec := { name := "fnExactAddOwner", fn := fun _ => fun
  | [d1, d2, d3] => { results := [.lit (.bool true)], args := [d1, d2, d3] }
  | _ => none }
def fnExactAddOwnerRow : OpenClaim := { program := "ytkpofdfikmcjgaa", sum := "8e9e918e9be7e56311a3f6be53d812cd1f10db0739df614111c28da355a8ea9e", func := "loop.example/g00522/laws.FnExactAddOwner", spec := "fnExactAddOwner", unfollowed := true, recurses := true, apart := false }
def FnExactAddOwnerSaid : Prop := fnExactAddOwnerRow.holds Try.pinned (OpenSpec.ofChange fnExactAddOwnerSpec)

/-- ITS FALSE NEIGHBOUR: 'it returns false'. Refute it at one input. -/
def fnExactAddOwnerWrong : ChangeSpec := { name := "fnExactAddOwner", fn := fun _ => fun
  | [d1, d2, d3] => { results := [.lit (.bool false)], args := [d1, d2, d3] }
  | _ => none }
def FnExactAddOwnerWrongFalsely : Prop := fnExactAddOwnerRow.holds Try.pinned (OpenSpec.ofChange fnExactAddOwnerWrong)

/-- 'laws.FnExactMergeLabels': WHATEVER THE INPUT: true; the input reads as it did. -/
def fnExactMergeLabelsSpec : ChangeSpec := { name := "fnExactMergeLabels", fn := fun _ => fun
  | [d1, d2] => { results := [.lit (.bool true)], args := [d1, d2] }
  | _ => none }
def fnExactMergeLabelsRow : OpenClaim := { program := "ytkpofdfikmcjgaa", sum := "8e9e918e9be7e56311a3f6be53d812cd1f10db0739df614111c28da355a8ea9e", func := "loop.example/g00522/laws.FnExactMergeLabels", spec := "fnExactMergeLabels", inPlace := ["internal/bytealg.abigen_runtime_cmpstring"], unfollowed := true, recurses := true, apart := false }
def FnExactMergeLabelsSaid : Prop := fnExactMergeLabelsRow.holds Try.pinned (OpenSpec.ofChange fnExactMergeLabelsSpec)

/-- ITS FALSE NEIGHBOUR: 'it returns false'. Refute it at one input. -/
def fnExactMergeLabelsWrong : ChangeSpec := { name := "fnExactMergeLabels", fn := fun _ => fun
  | [d1, d2] => { results := [.lit (.bool false)], args := [d1, d2] }
  | _ => none }
def FnExactMergeLabelsWrongFalsely : Prop := fnExactMergeLabelsRow.holds Try.pinned (OpenSpec.ofChange fnExactMergeLabelsWrong)

/-- 'laws.FnRing': WHATEVER THE INPUT: true; the input reads as it did. -/
def fnRingSpec : ChangeSpec := { name := "fnRing", fn := fun _ => fun
  | [d1, d2] => { results := [.lit (.bool true)], args := [d1, d2] }
  | _ => none }
def fnRingRow : OpenClaim := { program := "ytkpofdfikmcjgaa", sum := "8e9e918e9be7e56311a3f6be53d812cd1f10db0739df614111c28da355a8ea9e", func := "loop.example/g00522/laws.FnRing", spec := "fnRing", unfollowed := true, recurses := true, apart := false }
def FnRingSaid : Prop := fnRingRow.holds Try.pinned (OpenSpec.ofChange fnRingSpec)

/-- ITS FALSE NEIGHBOUR: 'it returns false'. Refute it at one input. -/
def fnRingWrong : ChangeSpec := { name := "fnRing", fn := fun _ => fun
  | [d1, d2] => { results := [.lit (.bool false)], args := [d1, d2] }
  | _ => none }
def FnRingWrongFalsely : Prop := fnRingRow.holds Try.pinned (OpenSpec.ofChange fnRingWrong)

/- THE SECOND FORM. 'bulk': how many values and letters a reading holds, each counted each time it is reached (what is shared counts as often as it is met; a slice's spare places count too). A statement '..UptoSaid' is the law's where the arguments, and the package variables that the reading takes, are together of bulk at most 1048576: NARROWER than '..Said'. Prove '..Said' where nothing that the law and all that it calls make is longer than what came in: it says more and counts as full. Else prove '..UptoSaid'. A law counts once. -/
mutual
def uptoBulk {H : Type} : DataW H → Nat
  | .lit (.string bytes) => bytes.length + 1
  | .lit _ => 1
  | .nil => 1
  | .ptr d => uptoBulk d + 1
  | .slice elems spare => uptoBulkAll elems + uptoBulkAll spare + 1
  | .agg parts => uptoBulkAll parts + 1
  | .iface _ d => uptoBulk d + 1
  | .map entries => uptoBulkEntries entries + 1
  | .held _ => 1
def uptoBulkAll {H : Type} : List (DataW H) → Nat
  | [] => 0
  | d :: r => uptoBulk d + uptoBulkAll r
def uptoBulkEntries {H : Type} : List (Lit × DataW H) → Nat
  | [] => 0
  | x :: r => uptoBulkEntry x + uptoBulkEntries r
def uptoBulkEntry {H : Type} : Lit × DataW H → Nat
  | (.string bytes, d) => bytes.length + uptoBulk d + 1
  | (_, d) => uptoBulk d + 1
 end
def uptoSmall : (H : Type) → List (DataW H) → Bool := fun _ ds => decide (uptoBulkAll ds ≤ 1048576)
def OpenSpec.upto (s : _root_.Go.ChangeSpec) : _root_.Go.OpenSpec := { _root_.Go.OpenSpec.ofChange s with cond := some uptoSmall }

/-- 'laws.FnExactGoodLabels', WHERE WHAT IT READS IS OF BULK AT MOST 1048576: true; the input reads as it did. -/
def fnExactGoodLabelsUptoRow : OpenClaim := { program := "ytkpofdfikmcjgaa", sum := "8e9e918e9be7e56311a3f6be53d812cd1f10db0739df614111c28da355a8ea9e", func := "loop.example/g00522/laws.FnExactGoodLabels", spec := "fnExactGoodLabels", apart := false, narrowed := true }
def FnExactGoodLabelsUptoSaid : Prop := fnExactGoodLabelsUptoRow.holds Try.pinned (OpenSpec.upto fnExactGoodLabelsSpec)

/-- 'laws.FnExactOwnerOf', WHERE WHAT IT READS IS OF BULK AT MOST 1048576: true; the input reads as it did. -/
def fnExactOwnerOfUptoRow : OpenClaim := { program := "ytkpofdfikmcjgaa", sum := "8e9e918e9be7e56311a3f6be53d812cd1f10db0739df614111c28da355a8ea9e", func := "loop.example/g00522/laws.FnExactOwnerOf", spec := "fnExactOwnerOf", unfollowed := true, recurses := true, apart := false, narrowed := true }
def FnExactOwnerOfUptoSaid : Prop := fnExactOwnerOfUptoRow.holds Try.pinned (OpenSpec.upto fnExactOwnerOfSpec)

/-- 'laws.FnExactDropOwner', WHERE WHAT IT READS IS OF BULK AT MOST 1048576: true; the input reads as it did. -/
def fnExactDropOwnerUptoRow : OpenClaim := { program := "ytkpofdfikmcjgaa", sum := "8e9e918e9be7e56311a3f6be53d812cd1f10db0739df614111c28da355a8ea9e", func := "loop.example/g00522/laws.FnExactDropOwner", spec := "fnExactDropOwner", unfollowed := true, recurses := true, apart := false, narrowed := true }
def FnExactDropOwnerUptoSaid : Prop := fnExactDropOwnerUptoRow.holds Try.pinned (OpenSpec.upto fnExactDropOwnerSpec)

/-- 'laws.FnExactOwnersOf', WHERE WHAT IT READS IS OF BULK AT MOST 1048576: true; the input reads as it did. -/
def fnExactOwnersOfUptoRow : OpenClaim := { program := "ytkpofdfikmcjgaa", sum := "8e9e918e9be7e56311a3f6be53d812cd1f10db0739df614111c28da355a8ea9e", func := "loop.example/g00522/laws.FnExactOwnersOf", spec := "fnExactOwnersOf", unfollowed := true, recurses := true, apart := false, narrowed := true }
def FnExactOwnersOfUptoSaid : Prop := fnExactOwnersOfUptoRow.holds Try.pinned (OpenSpec.upto fnExactOwnersOfSpec)

/-- 'laws.FnExactLabelsText', WHERE WHAT IT READS IS OF BULK AT MOST 1048576: true; the input reads as it did. -/
def fnExactLabelsTextUptoRow : OpenClaim := { program := "ytkpofdfikmcjgaa", sum := "8e9e918e9be7e56311a3f6be53d812cd1f10db0739df614111c28da355a8ea9e", func := "loop.example/g00522/laws.FnExactLabelsText", spec := "fnExactLabelsText", inPlace := ["internal/abi.NoEscape", "internal/bytealg.MakeNoZero"], apart := false, narrowed := true }
def FnExactLabelsTextUptoSaid : Prop := fnExactLabelsTextUptoRow.holds Try.pinned (OpenSpec.upto fnExactLabelsTextSpec)

/-- 'laws.FnExactAddOwner', WHERE WHAT IT READS IS OF BULK AT MOST 1048576: true; the input reads as it did. -/
def fnExactAddOwnerUptoRow : OpenClaim := { program := "ytkpofdfikmcjgaa", sum := "8e9e918e9be7e56311a3f6be53d812cd1f10db0739df614111c28da355a8ea9e", func := "loop.example/g00522/laws.FnExactAddOwner", spec := "fnExactAddOwner", unfollowed := true, recurses := true, apart := false, narrowed := true }
def FnExactAddOwnerUptoSaid : Prop := fnExactAddOwnerUptoRow.holds Try.pinned (OpenSpec.upto fnExactAddOwnerSpec)

/-- 'laws.FnExactMergeLabels', WHERE WHAT IT READS IS OF BULK AT MOST 1048576: true; the input reads as it did. -/
def fnExactMergeLabelsUptoRow : OpenClaim := { program := "ytkpofdfikmcjgaa", sum := "8e9e918e9be7e56311a3f6be53d812cd1f10db0739df614111c28da355a8ea9e", func := "loop.example/g00522/laws.FnExactMergeLabels", spec := "fnExactMergeLabels", inPlace := ["internal/bytealg.abigen_runtime_cmpstring"], unfollowed := true, recurses := true, apart := false, narrowed := true }
def FnExactMergeLabelsUptoSaid : Prop := fnExactMergeLabelsUptoRow.holds Try.pinned (OpenSpec.upto fnExactMergeLabelsSpec)

/-- 'laws.FnRing', WHERE WHAT IT READS IS OF BULK AT MOST 1048576: true; the input reads as it did. -/
def fnRingUptoRow : OpenClaim := { program := "ytkpofdfikmcjgaa", sum := "8e9e918e9be7e56311a3f6be53d812cd1f10db0739df614111c28da355a8ea9e", func := "loop.example/g00522/laws.FnRing", spec := "fnRing", unfollowed := true, recurses := true, apart := false, narrowed := true }
def FnRingUptoSaid : Prop := fnRingUptoRow.holds Try.pinned (OpenSpec.upto fnRingSpec)

end Rows
end Go.Proofs.Ytkpofdfikmcjgaa
