/-
  No cell of these rows narrows 'for every input' (looked for: loops, veiled, ifaces, maps, wideKeys, modest, calm, conditions, laid).
  DERIVED. THE GIVEN ROWS OF THIS SEAT. 12 by the template 'for every input the law returns true; each argument reads behind the call as it read before'; 0 by the template 'total and deterministic' (their statements: YtmnbjolkenabjaaTotals.lean).
  GIVEN WITH THE SEED: the statements are not yours to turn. If you find one false, say at which input.
  Laid BY PROGRAM, IN A SANDBOX (cutbox-rows.mjs): the forced cells as the released guide's own fill.sh prints them over the translation f19ecc61a98bd965… (all of the seat's roots in one cut). By AI agents, Wed Nov 11 2026. No macro, syntax, notation, axiom, sorry.
-/
import Derived.Test.YtmnbjolkenabjaaChecked
import GoSem.Claim
import GoSem.ClaimJoined
import GoSem.ClaimMapViews
import Derived.JoinedTies
import Derived.KernelRfl
namespace Go.Proofs.Ytmnbjolkenabjaa
/- THE CELL 'sum', in the pinned program and in every row, IS THE sha256 OF THE DUMP (.gsa) THAT YtmnbjolkenabjaaProg.lean LOADS. Nothing in Lean hashes anything: it is a label: what it is worth is what the hold of that sum in a sandbox is worth. -/
noncomputable def Try.pinned : Pinned := { name := "ytmnbjolkenabjaa", sum := "f19ecc61a98bd965eaeb79c31d7282e6e24c1b85b938c14ae16805708aa7979f", checked := Try.checked }
namespace Rows
def none {H : Type} : Left H := { results := [], args := [] }

/-- 'laws.FnExactConstants': WHATEVER THE INPUT: true; the input reads as it did. -/
def fnExactConstantsSpec : ChangeSpec := { name := "fnExactConstants", fn := fun _ => fun
  | [] => { results := [.lit (.bool true)], args := [] }
  | _ => none }
def fnExactConstantsRow : OpenClaim := { program := "ytmnbjolkenabjaa", sum := "f19ecc61a98bd965eaeb79c31d7282e6e24c1b85b938c14ae16805708aa7979f", func := "loop.example/g00522/laws.FnExactConstants", spec := "fnExactConstants", apart := false }
def FnExactConstantsSaid : Prop := fnExactConstantsRow.holds Try.pinned (OpenSpec.ofChange fnExactConstantsSpec)

/-- ITS FALSE NEIGHBOUR: 'it returns false'. Refute it at one input. -/
def fnExactConstantsWrong : ChangeSpec := { name := "fnExactConstants", fn := fun _ => fun
  | [] => { results := [.lit (.bool false)], args := [] }
  | _ => none }
def FnExactConstantsWrongFalsely : Prop := fnExactConstantsRow.holds Try.pinned (OpenSpec.ofChange fnExactConstantsWrong)

/-- 'laws.FnExactHashText': WHATEVER THE INPUT: true; the input reads as it did. -/
def fnExactHashTextSpec : ChangeSpec := { name := "fnExactHashText", fn := fun _ => fun
  | [d] => { results := [.lit (.bool true)], args := [d] }
  | _ => none }
def fnExactHashTextRow : OpenClaim := { program := "ytmnbjolkenabjaa", sum := "f19ecc61a98bd965eaeb79c31d7282e6e24c1b85b938c14ae16805708aa7979f", func := "loop.example/g00522/laws.FnExactHashText", spec := "fnExactHashText", apart := false }
def FnExactHashTextSaid : Prop := fnExactHashTextRow.holds Try.pinned (OpenSpec.ofChange fnExactHashTextSpec)

/-- ITS FALSE NEIGHBOUR: 'it returns false'. Refute it at one input. -/
def fnExactHashTextWrong : ChangeSpec := { name := "fnExactHashText", fn := fun _ => fun
  | [d] => { results := [.lit (.bool false)], args := [d] }
  | _ => none }
def FnExactHashTextWrongFalsely : Prop := fnExactHashTextRow.holds Try.pinned (OpenSpec.ofChange fnExactHashTextWrong)

/-- 'laws.FnExactUnZigZag': WHATEVER THE INPUT: true; the input reads as it did. -/
def fnExactUnZigZagSpec : ChangeSpec := { name := "fnExactUnZigZag", fn := fun _ => fun
  | [d] => { results := [.lit (.bool true)], args := [d] }
  | _ => none }
def fnExactUnZigZagRow : OpenClaim := { program := "ytmnbjolkenabjaa", sum := "f19ecc61a98bd965eaeb79c31d7282e6e24c1b85b938c14ae16805708aa7979f", func := "loop.example/g00522/laws.FnExactUnZigZag", spec := "fnExactUnZigZag", apart := false }
def FnExactUnZigZagSaid : Prop := fnExactUnZigZagRow.holds Try.pinned (OpenSpec.ofChange fnExactUnZigZagSpec)

/-- ITS FALSE NEIGHBOUR: 'it returns false'. Refute it at one input. -/
def fnExactUnZigZagWrong : ChangeSpec := { name := "fnExactUnZigZag", fn := fun _ => fun
  | [d] => { results := [.lit (.bool false)], args := [d] }
  | _ => none }
def FnExactUnZigZagWrongFalsely : Prop := fnExactUnZigZagRow.holds Try.pinned (OpenSpec.ofChange fnExactUnZigZagWrong)

/-- 'laws.FnExactZigZag': WHATEVER THE INPUT: true; the input reads as it did. -/
def fnExactZigZagSpec : ChangeSpec := { name := "fnExactZigZag", fn := fun _ => fun
  | [d] => { results := [.lit (.bool true)], args := [d] }
  | _ => none }
def fnExactZigZagRow : OpenClaim := { program := "ytmnbjolkenabjaa", sum := "f19ecc61a98bd965eaeb79c31d7282e6e24c1b85b938c14ae16805708aa7979f", func := "loop.example/g00522/laws.FnExactZigZag", spec := "fnExactZigZag", apart := false }
def FnExactZigZagSaid : Prop := fnExactZigZagRow.holds Try.pinned (OpenSpec.ofChange fnExactZigZagSpec)

/-- ITS FALSE NEIGHBOUR: 'it returns false'. Refute it at one input. -/
def fnExactZigZagWrong : ChangeSpec := { name := "fnExactZigZag", fn := fun _ => fun
  | [d] => { results := [.lit (.bool false)], args := [d] }
  | _ => none }
def FnExactZigZagWrongFalsely : Prop := fnExactZigZagRow.holds Try.pinned (OpenSpec.ofChange fnExactZigZagWrong)

/-- 'laws.FnExactGoodPosts': WHATEVER THE INPUT: true; the input reads as it did. -/
def fnExactGoodPostsSpec : ChangeSpec := { name := "fnExactGoodPosts", fn := fun _ => fun
  | [d] => { results := [.lit (.bool true)], args := [d] }
  | _ => none }
def fnExactGoodPostsRow : OpenClaim := { program := "ytmnbjolkenabjaa", sum := "f19ecc61a98bd965eaeb79c31d7282e6e24c1b85b938c14ae16805708aa7979f", func := "loop.example/g00522/laws.FnExactGoodPosts", spec := "fnExactGoodPosts", apart := false }
def FnExactGoodPostsSaid : Prop := fnExactGoodPostsRow.holds Try.pinned (OpenSpec.ofChange fnExactGoodPostsSpec)

/-- ITS FALSE NEIGHBOUR: 'it returns false'. Refute it at one input. -/
def fnExactGoodPostsWrong : ChangeSpec := { name := "fnExactGoodPosts", fn := fun _ => fun
  | [d] => { results := [.lit (.bool false)], args := [d] }
  | _ => none }
def FnExactGoodPostsWrongFalsely : Prop := fnExactGoodPostsRow.holds Try.pinned (OpenSpec.ofChange fnExactGoodPostsWrong)

/-- 'laws.FnExactLengthOf': WHATEVER THE INPUT: true; the input reads as it did. -/
def fnExactLengthOfSpec : ChangeSpec := { name := "fnExactLengthOf", fn := fun _ => fun
  | [d] => { results := [.lit (.bool true)], args := [d] }
  | _ => none }
def fnExactLengthOfRow : OpenClaim := { program := "ytmnbjolkenabjaa", sum := "f19ecc61a98bd965eaeb79c31d7282e6e24c1b85b938c14ae16805708aa7979f", func := "loop.example/g00522/laws.FnExactLengthOf", spec := "fnExactLengthOf", apart := false }
def FnExactLengthOfSaid : Prop := fnExactLengthOfRow.holds Try.pinned (OpenSpec.ofChange fnExactLengthOfSpec)

/-- ITS FALSE NEIGHBOUR: 'it returns false'. Refute it at one input. -/
def fnExactLengthOfWrong : ChangeSpec := { name := "fnExactLengthOf", fn := fun _ => fun
  | [d] => { results := [.lit (.bool false)], args := [d] }
  | _ => none }
def FnExactLengthOfWrongFalsely : Prop := fnExactLengthOfRow.holds Try.pinned (OpenSpec.ofChange fnExactLengthOfWrong)

/-- 'laws.FnExactPutVarint': WHATEVER THE INPUT: true; the input reads as it did. -/
def fnExactPutVarintSpec : ChangeSpec := { name := "fnExactPutVarint", fn := fun _ => fun
  | [d] => { results := [.lit (.bool true)], args := [d] }
  | _ => none }
def fnExactPutVarintRow : OpenClaim := { program := "ytmnbjolkenabjaa", sum := "f19ecc61a98bd965eaeb79c31d7282e6e24c1b85b938c14ae16805708aa7979f", func := "loop.example/g00522/laws.FnExactPutVarint", spec := "fnExactPutVarint", apart := false }
def FnExactPutVarintSaid : Prop := fnExactPutVarintRow.holds Try.pinned (OpenSpec.ofChange fnExactPutVarintSpec)

/-- ITS FALSE NEIGHBOUR: 'it returns false'. Refute it at one input. -/
def fnExactPutVarintWrong : ChangeSpec := { name := "fnExactPutVarint", fn := fun _ => fun
  | [d] => { results := [.lit (.bool false)], args := [d] }
  | _ => none }
def FnExactPutVarintWrongFalsely : Prop := fnExactPutVarintRow.holds Try.pinned (OpenSpec.ofChange fnExactPutVarintWrong)

/-- 'laws.FnExactLeapFrom': WHATEVER THE INPUT: true; the input reads as it did. -/
def fnExactLeapFromSpec : ChangeSpec := { name := "fnExactLeapFrom", fn := fun _ => fun
  | [d1, d2, d3] => { results := [.lit (.bool true)], args := [d1, d2, d3] }
  | _ => none }
def fnExactLeapFromRow : OpenClaim := { program := "ytmnbjolkenabjaa", sum := "f19ecc61a98bd965eaeb79c31d7282e6e24c1b85b938c14ae16805708aa7979f", func := "loop.example/g00522/laws.FnExactLeapFrom", spec := "fnExactLeapFrom", apart := false }
def FnExactLeapFromSaid : Prop := fnExactLeapFromRow.holds Try.pinned (OpenSpec.ofChange fnExactLeapFromSpec)

/-- ITS FALSE NEIGHBOUR: 'it returns false'. Refute it at one input. -/
def fnExactLeapFromWrong : ChangeSpec := { name := "fnExactLeapFrom", fn := fun _ => fun
  | [d1, d2, d3] => { results := [.lit (.bool false)], args := [d1, d2, d3] }
  | _ => none }
def FnExactLeapFromWrongFalsely : Prop := fnExactLeapFromRow.holds Try.pinned (OpenSpec.ofChange fnExactLeapFromWrong)

/-- 'laws.FnExactGetVarint': WHATEVER THE INPUT: true; the input reads as it did. -/
def fnExactGetVarintSpec : ChangeSpec := { name := "fnExactGetVarint", fn := fun _ => fun
  | [d1, d2] => { results := [.lit (.bool true)], args := [d1, d2] }
  | _ => none }
def fnExactGetVarintRow : OpenClaim := { program := "ytmnbjolkenabjaa", sum := "f19ecc61a98bd965eaeb79c31d7282e6e24c1b85b938c14ae16805708aa7979f", func := "loop.example/g00522/laws.FnExactGetVarint", spec := "fnExactGetVarint", apart := false }
def FnExactGetVarintSaid : Prop := fnExactGetVarintRow.holds Try.pinned (OpenSpec.ofChange fnExactGetVarintSpec)

/-- ITS FALSE NEIGHBOUR: 'it returns false'. Refute it at one input. -/
def fnExactGetVarintWrong : ChangeSpec := { name := "fnExactGetVarint", fn := fun _ => fun
  | [d1, d2] => { results := [.lit (.bool false)], args := [d1, d2] }
  | _ => none }
def FnExactGetVarintWrongFalsely : Prop := fnExactGetVarintRow.holds Try.pinned (OpenSpec.ofChange fnExactGetVarintWrong)

/-- 'laws.FnExactPutAll': WHATEVER THE INPUT: true; the input reads as it did. -/
def fnExactPutAllSpec : ChangeSpec := { name := "fnExactPutAll", fn := fun _ => fun
  | [d] => { results := [.lit (.bool true)], args := [d] }
  | _ => none }
def fnExactPutAllRow : OpenClaim := { program := "ytmnbjolkenabjaa", sum := "f19ecc61a98bd965eaeb79c31d7282e6e24c1b85b938c14ae16805708aa7979f", func := "loop.example/g00522/laws.FnExactPutAll", spec := "fnExactPutAll", inPlace := ["internal/abi.NoEscape"], unfollowed := true, recurses := true, apart := false }
def FnExactPutAllSaid : Prop := fnExactPutAllRow.holds Try.pinned (OpenSpec.ofChange fnExactPutAllSpec)

/-- ITS FALSE NEIGHBOUR: 'it returns false'. Refute it at one input. -/
def fnExactPutAllWrong : ChangeSpec := { name := "fnExactPutAll", fn := fun _ => fun
  | [d] => { results := [.lit (.bool false)], args := [d] }
  | _ => none }
def FnExactPutAllWrongFalsely : Prop := fnExactPutAllRow.holds Try.pinned (OpenSpec.ofChange fnExactPutAllWrong)

/-- 'laws.FnExactGetAll': WHATEVER THE INPUT: true; the input reads as it did. -/
def fnExactGetAllSpec : ChangeSpec := { name := "fnExactGetAll", fn := fun _ => fun
  | [d] => { results := [.lit (.bool true)], args := [d] }
  | _ => none }
def fnExactGetAllRow : OpenClaim := { program := "ytmnbjolkenabjaa", sum := "f19ecc61a98bd965eaeb79c31d7282e6e24c1b85b938c14ae16805708aa7979f", func := "loop.example/g00522/laws.FnExactGetAll", spec := "fnExactGetAll", apart := false }
def FnExactGetAllSaid : Prop := fnExactGetAllRow.holds Try.pinned (OpenSpec.ofChange fnExactGetAllSpec)

/-- ITS FALSE NEIGHBOUR: 'it returns false'. Refute it at one input. -/
def fnExactGetAllWrong : ChangeSpec := { name := "fnExactGetAll", fn := fun _ => fun
  | [d] => { results := [.lit (.bool false)], args := [d] }
  | _ => none }
def FnExactGetAllWrongFalsely : Prop := fnExactGetAllRow.holds Try.pinned (OpenSpec.ofChange fnExactGetAllWrong)

/-- 'laws.FnExactGoodRing': WHATEVER THE INPUT: true; the input reads as it did. -/
def fnExactGoodRingSpec : ChangeSpec := { name := "fnExactGoodRing", fn := fun _ => fun
  | [d] => { results := [.lit (.bool true)], args := [d] }
  | _ => none }
def fnExactGoodRingRow : OpenClaim := { program := "ytmnbjolkenabjaa", sum := "f19ecc61a98bd965eaeb79c31d7282e6e24c1b85b938c14ae16805708aa7979f", func := "loop.example/g00522/laws.FnExactGoodRing", spec := "fnExactGoodRing", apart := false }
def FnExactGoodRingSaid : Prop := fnExactGoodRingRow.holds Try.pinned (OpenSpec.ofChange fnExactGoodRingSpec)

/-- ITS FALSE NEIGHBOUR: 'it returns false'. Refute it at one input. -/
def fnExactGoodRingWrong : ChangeSpec := { name := "fnExactGoodRing", fn := fun _ => fun
  | [d] => { results := [.lit (.bool false)], args := [d] }
  | _ => none }
def FnExactGoodRingWrongFalsely : Prop := fnExactGoodRingRow.holds Try.pinned (OpenSpec.ofChange fnExactGoodRingWrong)

/- THE SECOND FORM. 'bulk': how many values and letters a reading holds, each counted each time it is reached (what is shared counts as often as it is met; a slice's spare places count too). A statement '..UptoSaid' is the law's where the arguments, and the package variables that the reading takes, are together of bulk at most 1048576: NARROWER than '..Said'. Prove '..Said' where nothing that the law and all that it calls make is longer than what came in: it says more and counts as full. Else prove '..UptoSaid'. A law counts once. -/
mutual
def uptoBulk {H : Type} : DataW H → Nat
  | .lit (.string bytes) => bytes.length + 1
  | .lit _ => 1
  | .nil => 1
  | .ptr d => uptoBulk d + 1
  | .slice elems spare => uptoBulkAll elems + uptoBulkAll spare + 1
  | .agg parts => uptoBulkAll parts + 1
  | .iface _ d => uptoBulk d + 1
  | .map entries => uptoBulkEntries entries + 1
  | .held _ => 1
def uptoBulkAll {H : Type} : List (DataW H) → Nat
  | [] => 0
  | d :: r => uptoBulk d + uptoBulkAll r
def uptoBulkEntries {H : Type} : List (Lit × DataW H) → Nat
  | [] => 0
  | x :: r => uptoBulkEntry x + uptoBulkEntries r
def uptoBulkEntry {H : Type} : Lit × DataW H → Nat
  | (.string bytes, d) => bytes.length + uptoBulk d + 1
  | (_, d) => uptoBulk d + 1
 end
def uptoSmall : (H : Type) → List (DataW H) → Bool := fun _ ds => decide (uptoBulkAll ds ≤ 1048576)
def OpenSpec.upto (s : _root_.Go.ChangeSpec) : _root_.Go.OpenSpec := { _root_.Go.OpenSpec.ofChange s with cond := some uptoSmall }

/-- 'laws.FnExactConstants', WHERE WHAT IT READS IS OF BULK AT MOST 1048576: true; the input reads as it did. -/
def fnExactConstantsUptoRow : OpenClaim := { program := "ytmnbjolkenabjaa", sum := "f19ecc61a98bd965eaeb79c31d7282e6e24c1b85b938c14ae16805708aa7979f", func := "loop.example/g00522/laws.FnExactConstants", spec := "fnExactConstants", apart := false, narrowed := true }
def FnExactConstantsUptoSaid : Prop := fnExactConstantsUptoRow.holds Try.pinned (OpenSpec.upto fnExactConstantsSpec)

/-- 'laws.FnExactHashText', WHERE WHAT IT READS IS OF BULK AT MOST 1048576: true; the input reads as it did. -/
def fnExactHashTextUptoRow : OpenClaim := { program := "ytmnbjolkenabjaa", sum := "f19ecc61a98bd965eaeb79c31d7282e6e24c1b85b938c14ae16805708aa7979f", func := "loop.example/g00522/laws.FnExactHashText", spec := "fnExactHashText", apart := false, narrowed := true }
def FnExactHashTextUptoSaid : Prop := fnExactHashTextUptoRow.holds Try.pinned (OpenSpec.upto fnExactHashTextSpec)

/-- 'laws.FnExactUnZigZag', WHERE WHAT IT READS IS OF BULK AT MOST 1048576: true; the input reads as it did. -/
def fnExactUnZigZagUptoRow : OpenClaim := { program := "ytmnbjolkenabjaa", sum := "f19ecc61a98bd965eaeb79c31d7282e6e24c1b85b938c14ae16805708aa7979f", func := "loop.example/g00522/laws.FnExactUnZigZag", spec := "fnExactUnZigZag", apart := false, narrowed := true }
def FnExactUnZigZagUptoSaid : Prop := fnExactUnZigZagUptoRow.holds Try.pinned (OpenSpec.upto fnExactUnZigZagSpec)

/-- 'laws.FnExactZigZag', WHERE WHAT IT READS IS OF BULK AT MOST 1048576: true; the input reads as it did. -/
def fnExactZigZagUptoRow : OpenClaim := { program := "ytmnbjolkenabjaa", sum := "f19ecc61a98bd965eaeb79c31d7282e6e24c1b85b938c14ae16805708aa7979f", func := "loop.example/g00522/laws.FnExactZigZag", spec := "fnExactZigZag", apart := false, narrowed := true }
def FnExactZigZagUptoSaid : Prop := fnExactZigZagUptoRow.holds Try.pinned (OpenSpec.upto fnExactZigZagSpec)

/-- 'laws.FnExactGoodPosts', WHERE WHAT IT READS IS OF BULK AT MOST 1048576: true; the input reads as it did. -/
def fnExactGoodPostsUptoRow : OpenClaim := { program := "ytmnbjolkenabjaa", sum := "f19ecc61a98bd965eaeb79c31d7282e6e24c1b85b938c14ae16805708aa7979f", func := "loop.example/g00522/laws.FnExactGoodPosts", spec := "fnExactGoodPosts", apart := false, narrowed := true }
def FnExactGoodPostsUptoSaid : Prop := fnExactGoodPostsUptoRow.holds Try.pinned (OpenSpec.upto fnExactGoodPostsSpec)

/-- 'laws.FnExactLengthOf', WHERE WHAT IT READS IS OF BULK AT MOST 1048576: true; the input reads as it did. -/
def fnExactLengthOfUptoRow : OpenClaim := { program := "ytmnbjolkenabjaa", sum := "f19ecc61a98bd965eaeb79c31d7282e6e24c1b85b938c14ae16805708aa7979f", func := "loop.example/g00522/laws.FnExactLengthOf", spec := "fnExactLengthOf", apart := false, narrowed := true }
def FnExactLengthOfUptoSaid : Prop := fnExactLengthOfUptoRow.holds Try.pinned (OpenSpec.upto fnExactLengthOfSpec)

/-- 'laws.FnExactPutVarint', WHERE WHAT IT READS IS OF BULK AT MOST 1048576: true; the input reads as it did. -/
def fnExactPutVarintUptoRow : OpenClaim := { program := "ytmnbjolkenabjaa", sum := "f19ecc61a98bd965eaeb79c31d7282e6e24c1b85b938c14ae16805708aa7979f", func := "loop.example/g00522/laws.FnExactPutVarint", spec := "fnExactPutVarint", apart := false, narrowed := true }
def FnExactPutVarintUptoSaid : Prop := fnExactPutVarintUptoRow.holds Try.pinned (OpenSpec.upto fnExactPutVarintSpec)

/-- 'laws.FnExactLeapFrom', WHERE WHAT IT READS IS OF BULK AT MOST 1048576: true; the input reads as it did. -/
def fnExactLeapFromUptoRow : OpenClaim := { program := "ytmnbjolkenabjaa", sum := "f19ecc61a98bd965eaeb79c31d7282e6e24c1b85b938c14ae16805708aa7979f", func := "loop.example/g00522/laws.FnExactLeapFrom", spec := "fnExactLeapFrom", apart := false, narrowed := true }
def FnExactLeapFromUptoSaid : Prop := fnExactLeapFromUptoRow.holds Try.pinned (OpenSpec.upto fnExactLeapFromSpec)

/-- 'laws.FnExactGetVarint', WHERE WHAT IT READS IS OF BULK AT MOST 1048576: true; the input reads as it did. -/
def fnExactGetVarintUptoRow : OpenClaim := { program := "ytmnbjolkenabjaa", sum := "f19ecc61a98bd965eaeb79c31d7282e6e24c1b85b938c14ae16805708aa7979f", func := "loop.example/g00522/laws.FnExactGetVarint", spec := "fnExactGetVarint", apart := false, narrowed := true }
def FnExactGetVarintUptoSaid : Prop := fnExactGetVarintUptoRow.holds Try.pinned (OpenSpec.upto fnExactGetVarintSpec)

/-- 'laws.FnExactPutAll', WHERE WHAT IT READS IS OF BULK AT MOST 1048576: true; the input reads as it did. -/
def fnExactPutAllUptoRow : OpenClaim := { program := "ytmnbjolkenabjaa", sum := "f19ecc61a98bd965eaeb79c31d7282e6e24c1b85b938c14ae16805708aa7979f", func := "loop.example/g00522/laws.FnExactPutAll", spec := "fnExactPutAll", inPlace := ["internal/abi.NoEscape"], unfollowed := true, recurses := true, apart := false, narrowed := true }
def FnExactPutAllUptoSaid : Prop := fnExactPutAllUptoRow.holds Try.pinned (OpenSpec.upto fnExactPutAllSpec)

/-- 'laws.FnExactGetAll', WHERE WHAT IT READS IS OF BULK AT MOST 1048576: true; the input reads as it did. -/
def fnExactGetAllUptoRow : OpenClaim := { program := "ytmnbjolkenabjaa", sum := "f19ecc61a98bd965eaeb79c31d7282e6e24c1b85b938c14ae16805708aa7979f", func := "loop.example/g00522/laws.FnExactGetAll", spec := "fnExactGetAll", apart := false, narrowed := true }
def FnExactGetAllUptoSaid : Prop := fnExactGetAllUptoRow.holds Try.pinned (OpenSpec.upto fnExactGetAllSpec)

/-- 'laws.FnExactGoodRing', WHERE WHAT IT READS IS OF BULK AT MOST 1048576: true; the input reads as it did. -/
def fnExactGoodRingUptoRow : OpenClaim := { program := "ytmnbjolkenabjaa", sum := "f19ecc61a98bd965eaeb79c31d7282e6e24c1b85b938c14ae16805708aa7979f", func := "loop.example/g00522/laws.FnExactGoodRing", spec := "fnExactGoodRing", apart := false, narrowed := true }
def FnExactGoodRingUptoSaid : Prop := fnExactGoodRingUptoRow.holds Try.pinned (OpenSpec.upto fnExactGoodRingSpec)

end Rows
end Go.Proofs.Ytmnbjolkenabjaa
