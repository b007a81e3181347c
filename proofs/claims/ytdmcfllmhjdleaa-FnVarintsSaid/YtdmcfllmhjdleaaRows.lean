/-
  No cell of these rows narrows 'for every input' (looked for: loops, veiled, ifaces, maps, wideKeys, modest, calm, conditions, laid).
  DERIVED. THE GIVEN ROWS OF THIS SEAT. 12 by the template 'for every input the law returns true; each argument reads behind the call as it read before'; 0 by the template 'total and deterministic' (their statements: YtdmcfllmhjdleaaTotals.lean).
  GIVEN WITH THE SEED: the statements are not yours to turn. If you find one false, say at which input.
  Laid BY PROGRAM, IN A SANDBOX (cutbox-rows.mjs): the forced cells as the released guide's own fill.sh prints them over the translation ce284d0948d8c1cf… (all of the seat's roots in one cut). By AI agents, Wed Nov 11 2026. No macro, syntax, notation, axiom, sorry.
-/
import Derived.Test.YtdmcfllmhjdleaaChecked
import GoSem.Claim
import GoSem.ClaimJoined
import GoSem.ClaimMapViews
import Derived.JoinedTies
import Derived.KernelRfl
namespace Go.Proofs.Ytdmcfllmhjdleaa
/- THE CELL 'sum', in the pinned program and in every row, IS THE sha256 OF THE DUMP (.gsa) THAT YtdmcfllmhjdleaaProg.lean LOADS. Nothing in Lean hashes anything: it is a label: what it is worth is what the hold of that sum in a sandbox is worth. -/
noncomputable def Try.pinned : Pinned := { name := "ytdmcfllmhjdleaa", sum := "ce284d0948d8c1cf4bcca90d7d213f3ba2adc4039d64dae440e328a091864df0", checked := Try.checked }
namespace Rows
def none {H : Type} : Left H := { results := [], args := [] }

/-- 'laws.FnExactGoodSamples': WHATEVER THE INPUT: true; the input reads as it did. -/
def fnExactGoodSamplesSpec : ChangeSpec := { name := "fnExactGoodSamples", fn := fun _ => fun
  | [d] => { results := [.lit (.bool true)], args := [d] }
  | _ => none }
def fnExactGoodSamplesRow : OpenClaim := { program := "ytdmcfllmhjdleaa", sum := "ce284d0948d8c1cf4bcca90d7d213f3ba2adc4039d64dae440e328a091864df0", func := "loop.example/g00522/laws.FnExactGoodSamples", spec := "fnExactGoodSamples", apart := false }
def FnExactGoodSamplesSaid : Prop := fnExactGoodSamplesRow.holds Try.pinned (OpenSpec.ofChange fnExactGoodSamplesSpec)

/-- ITS FALSE NEIGHBOUR: 'it returns false'. Refute it at one input. -/
def fnExactGoodSamplesWrong : ChangeSpec := { name := "fnExactGoodSamples", fn := fun _ => fun
  | [d] => { results := [.lit (.bool false)], args := [d] }
  | _ => none }
def FnExactGoodSamplesWrongFalsely : Prop := fnExactGoodSamplesRow.holds Try.pinned (OpenSpec.ofChange fnExactGoodSamplesWrong)

/-- 'laws.FnExactDeltasOf': WHATEVER THE INPUT: true; the input reads as it did. -/
def fnExactDeltasOfSpec : ChangeSpec := { name := "fnExactDeltasOf", fn := fun _ => fun
  | [d] => { results := [.lit (.bool true)], args := [d] }
  | _ => none }
def fnExactDeltasOfRow : OpenClaim := { program := "ytdmcfllmhjdleaa", sum := "ce284d0948d8c1cf4bcca90d7d213f3ba2adc4039d64dae440e328a091864df0", func := "loop.example/g00522/laws.FnExactDeltasOf", spec := "fnExactDeltasOf", unfollowed := true, recurses := true, apart := false }
def FnExactDeltasOfSaid : Prop := fnExactDeltasOfRow.holds Try.pinned (OpenSpec.ofChange fnExactDeltasOfSpec)

/-- ITS FALSE NEIGHBOUR: 'it returns false'. Refute it at one input. -/
def fnExactDeltasOfWrong : ChangeSpec := { name := "fnExactDeltasOf", fn := fun _ => fun
  | [d] => { results := [.lit (.bool false)], args := [d] }
  | _ => none }
def FnExactDeltasOfWrongFalsely : Prop := fnExactDeltasOfRow.holds Try.pinned (OpenSpec.ofChange fnExactDeltasOfWrong)

/-- 'laws.FnExactSumsOf': WHATEVER THE INPUT: true; the input reads as it did. -/
def fnExactSumsOfSpec : ChangeSpec := { name := "fnExactSumsOf", fn := fun _ => fun
  | [d] => { results := [.lit (.bool true)], args := [d] }
  | _ => none }
def fnExactSumsOfRow : OpenClaim := { program := "ytdmcfllmhjdleaa", sum := "ce284d0948d8c1cf4bcca90d7d213f3ba2adc4039d64dae440e328a091864df0", func := "loop.example/g00522/laws.FnExactSumsOf", spec := "fnExactSumsOf", unfollowed := true, recurses := true, apart := false }
def FnExactSumsOfSaid : Prop := fnExactSumsOfRow.holds Try.pinned (OpenSpec.ofChange fnExactSumsOfSpec)

/-- ITS FALSE NEIGHBOUR: 'it returns false'. Refute it at one input. -/
def fnExactSumsOfWrong : ChangeSpec := { name := "fnExactSumsOf", fn := fun _ => fun
  | [d] => { results := [.lit (.bool false)], args := [d] }
  | _ => none }
def FnExactSumsOfWrongFalsely : Prop := fnExactSumsOfRow.holds Try.pinned (OpenSpec.ofChange fnExactSumsOfWrong)

/-- 'laws.FnExactChunkSize': WHATEVER THE INPUT: true; the input reads as it did. -/
def fnExactChunkSizeSpec : ChangeSpec := { name := "fnExactChunkSize", fn := fun _ => fun
  | [d] => { results := [.lit (.bool true)], args := [d] }
  | _ => none }
def fnExactChunkSizeRow : OpenClaim := { program := "ytdmcfllmhjdleaa", sum := "ce284d0948d8c1cf4bcca90d7d213f3ba2adc4039d64dae440e328a091864df0", func := "loop.example/g00522/laws.FnExactChunkSize", spec := "fnExactChunkSize", apart := false }
def FnExactChunkSizeSaid : Prop := fnExactChunkSizeRow.holds Try.pinned (OpenSpec.ofChange fnExactChunkSizeSpec)

/-- ITS FALSE NEIGHBOUR: 'it returns false'. Refute it at one input. -/
def fnExactChunkSizeWrong : ChangeSpec := { name := "fnExactChunkSize", fn := fun _ => fun
  | [d] => { results := [.lit (.bool false)], args := [d] }
  | _ => none }
def FnExactChunkSizeWrongFalsely : Prop := fnExactChunkSizeRow.holds Try.pinned (OpenSpec.ofChange fnExactChunkSizeWrong)

/-- 'laws.FnExactEncodeChunk': WHATEVER THE INPUT: true; the input reads as it did. -/
def fnExactEncodeChunkSpec : ChangeSpec := { name := "fnExactEncodeChunk", fn := fun _ => fun
  | [d] => { results := [.lit (.bool true)], args := [d] }
  | _ => none }
def fnExactEncodeChunkRow : OpenClaim := { program := "ytdmcfllmhjdleaa", sum := "ce284d0948d8c1cf4bcca90d7d213f3ba2adc4039d64dae440e328a091864df0", func := "loop.example/g00522/laws.FnExactEncodeChunk", spec := "fnExactEncodeChunk", apart := false }
def FnExactEncodeChunkSaid : Prop := fnExactEncodeChunkRow.holds Try.pinned (OpenSpec.ofChange fnExactEncodeChunkSpec)

/-- ITS FALSE NEIGHBOUR: 'it returns false'. Refute it at one input. -/
def fnExactEncodeChunkWrong : ChangeSpec := { name := "fnExactEncodeChunk", fn := fun _ => fun
  | [d] => { results := [.lit (.bool false)], args := [d] }
  | _ => none }
def FnExactEncodeChunkWrongFalsely : Prop := fnExactEncodeChunkRow.holds Try.pinned (OpenSpec.ofChange fnExactEncodeChunkWrong)

/-- 'laws.FnExactJoinChunks': WHATEVER THE INPUT: true; the input reads as it did. -/
def fnExactJoinChunksSpec : ChangeSpec := { name := "fnExactJoinChunks", fn := fun _ => fun
  | [d1, d2] => { results := [.lit (.bool true)], args := [d1, d2] }
  | _ => none }
def fnExactJoinChunksRow : OpenClaim := { program := "ytdmcfllmhjdleaa", sum := "ce284d0948d8c1cf4bcca90d7d213f3ba2adc4039d64dae440e328a091864df0", func := "loop.example/g00522/laws.FnExactJoinChunks", spec := "fnExactJoinChunks", apart := false }
def FnExactJoinChunksSaid : Prop := fnExactJoinChunksRow.holds Try.pinned (OpenSpec.ofChange fnExactJoinChunksSpec)

/-- ITS FALSE NEIGHBOUR: 'it returns false'. Refute it at one input. -/
def fnExactJoinChunksWrong : ChangeSpec := { name := "fnExactJoinChunks", fn := fun _ => fun
  | [d1, d2] => { results := [.lit (.bool false)], args := [d1, d2] }
  | _ => none }
def FnExactJoinChunksWrongFalsely : Prop := fnExactJoinChunksRow.holds Try.pinned (OpenSpec.ofChange fnExactJoinChunksWrong)

/-- 'laws.FnExactAppendChunk': WHATEVER THE INPUT: true; the input reads as it did. -/
def fnExactAppendChunkSpec : ChangeSpec := { name := "fnExactAppendChunk", fn := fun _ => fun
  | [d1, d2] => { results := [.lit (.bool true)], args := [d1, d2] }
  | _ => none }
def fnExactAppendChunkRow : OpenClaim := { program := "ytdmcfllmhjdleaa", sum := "ce284d0948d8c1cf4bcca90d7d213f3ba2adc4039d64dae440e328a091864df0", func := "loop.example/g00522/laws.FnExactAppendChunk", spec := "fnExactAppendChunk", apart := false }
def FnExactAppendChunkSaid : Prop := fnExactAppendChunkRow.holds Try.pinned (OpenSpec.ofChange fnExactAppendChunkSpec)

/-- ITS FALSE NEIGHBOUR: 'it returns false'. Refute it at one input. -/
def fnExactAppendChunkWrong : ChangeSpec := { name := "fnExactAppendChunk", fn := fun _ => fun
  | [d1, d2] => { results := [.lit (.bool false)], args := [d1, d2] }
  | _ => none }
def FnExactAppendChunkWrongFalsely : Prop := fnExactAppendChunkRow.holds Try.pinned (OpenSpec.ofChange fnExactAppendChunkWrong)

/-- 'laws.FnExactDecodeChunk': WHATEVER THE INPUT: true; the input reads as it did. -/
def fnExactDecodeChunkSpec : ChangeSpec := { name := "fnExactDecodeChunk", fn := fun _ => fun
  | [d] => { results := [.lit (.bool true)], args := [d] }
  | _ => none }
def fnExactDecodeChunkRow : OpenClaim := { program := "ytdmcfllmhjdleaa", sum := "ce284d0948d8c1cf4bcca90d7d213f3ba2adc4039d64dae440e328a091864df0", func := "loop.example/g00522/laws.FnExactDecodeChunk", spec := "fnExactDecodeChunk", apart := false }
def FnExactDecodeChunkSaid : Prop := fnExactDecodeChunkRow.holds Try.pinned (OpenSpec.ofChange fnExactDecodeChunkSpec)

/-- ITS FALSE NEIGHBOUR: 'it returns false'. Refute it at one input. -/
def fnExactDecodeChunkWrong : ChangeSpec := { name := "fnExactDecodeChunk", fn := fun _ => fun
  | [d] => { results := [.lit (.bool false)], args := [d] }
  | _ => none }
def FnExactDecodeChunkWrongFalsely : Prop := fnExactDecodeChunkRow.holds Try.pinned (OpenSpec.ofChange fnExactDecodeChunkWrong)

/-- 'laws.FnExactRangeOf': WHATEVER THE INPUT: true; the input reads as it did. -/
def fnExactRangeOfSpec : ChangeSpec := { name := "fnExactRangeOf", fn := fun _ => fun
  | [d1, d2, d3] => { results := [.lit (.bool true)], args := [d1, d2, d3] }
  | _ => none }
def fnExactRangeOfRow : OpenClaim := { program := "ytdmcfllmhjdleaa", sum := "ce284d0948d8c1cf4bcca90d7d213f3ba2adc4039d64dae440e328a091864df0", func := "loop.example/g00522/laws.FnExactRangeOf", spec := "fnExactRangeOf", unfollowed := true, recurses := true, apart := false }
def FnExactRangeOfSaid : Prop := fnExactRangeOfRow.holds Try.pinned (OpenSpec.ofChange fnExactRangeOfSpec)

/-- ITS FALSE NEIGHBOUR: 'it returns false'. Refute it at one input. -/
def fnExactRangeOfWrong : ChangeSpec := { name := "fnExactRangeOf", fn := fun _ => fun
  | [d1, d2, d3] => { results := [.lit (.bool false)], args := [d1, d2, d3] }
  | _ => none }
def FnExactRangeOfWrongFalsely : Prop := fnExactRangeOfRow.holds Try.pinned (OpenSpec.ofChange fnExactRangeOfWrong)

/-- 'laws.FnVarints': WHATEVER THE INPUT: true; the input reads as it did. -/
def fnVarintsSpec : ChangeSpec := { name := "fnVarints", fn := fun _ => fun
  | [d1, d2] => { results := [.lit (.bool true)], args := [d1, d2] }
  | _ => none }
def fnVarintsRow : OpenClaim := { program := "ytdmcfllmhjdleaa", sum := "ce284d0948d8c1cf4bcca90d7d213f3ba2adc4039d64dae440e328a091864df0", func := "loop.example/g00522/laws.FnVarints", spec := "fnVarints", inPlace := ["internal/abi.NoEscape"], unfollowed := true, recurses := true, apart := false }
def FnVarintsSaid : Prop := fnVarintsRow.holds Try.pinned (OpenSpec.ofChange fnVarintsSpec)

/-- ITS FALSE NEIGHBOUR: 'it returns false'. Refute it at one input. -/
def fnVarintsWrong : ChangeSpec := { name := "fnVarints", fn := fun _ => fun
  | [d1, d2] => { results := [.lit (.bool false)], args := [d1, d2] }
  | _ => none }
def FnVarintsWrongFalsely : Prop := fnVarintsRow.holds Try.pinned (OpenSpec.ofChange fnVarintsWrong)

/-- 'laws.FnRanges': WHATEVER THE INPUT: true; the input reads as it did. -/
def fnRangesSpec : ChangeSpec := { name := "fnRanges", fn := fun _ => fun
  | [d1, d2] => { results := [.lit (.bool true)], args := [d1, d2] }
  | _ => none }
def fnRangesRow : OpenClaim := { program := "ytdmcfllmhjdleaa", sum := "ce284d0948d8c1cf4bcca90d7d213f3ba2adc4039d64dae440e328a091864df0", func := "loop.example/g00522/laws.FnRanges", spec := "fnRanges", unfollowed := true, recurses := true, apart := false }
def FnRangesSaid : Prop := fnRangesRow.holds Try.pinned (OpenSpec.ofChange fnRangesSpec)

/-- ITS FALSE NEIGHBOUR: 'it returns false'. Refute it at one input. -/
def fnRangesWrong : ChangeSpec := { name := "fnRanges", fn := fun _ => fun
  | [d1, d2] => { results := [.lit (.bool false)], args := [d1, d2] }
  | _ => none }
def FnRangesWrongFalsely : Prop := fnRangesRow.holds Try.pinned (OpenSpec.ofChange fnRangesWrong)

/-- 'laws.FnChunks': WHATEVER THE INPUT: true; the input reads as it did. -/
def fnChunksSpec : ChangeSpec := { name := "fnChunks", fn := fun _ => fun
  | [d1, d2] => { results := [.lit (.bool true)], args := [d1, d2] }
  | _ => none }
def fnChunksRow : OpenClaim := { program := "ytdmcfllmhjdleaa", sum := "ce284d0948d8c1cf4bcca90d7d213f3ba2adc4039d64dae440e328a091864df0", func := "loop.example/g00522/laws.FnChunks", spec := "fnChunks", unfollowed := true, recurses := true, apart := false }
def FnChunksSaid : Prop := fnChunksRow.holds Try.pinned (OpenSpec.ofChange fnChunksSpec)

/-- ITS FALSE NEIGHBOUR: 'it returns false'. Refute it at one input. -/
def fnChunksWrong : ChangeSpec := { name := "fnChunks", fn := fun _ => fun
  | [d1, d2] => { results := [.lit (.bool false)], args := [d1, d2] }
  | _ => none }
def FnChunksWrongFalsely : Prop := fnChunksRow.holds Try.pinned (OpenSpec.ofChange fnChunksWrong)

/- THE SECOND FORM. 'bulk': how many values and letters a reading holds, each counted each time it is reached (what is shared counts as often as it is met; a slice's spare places count too). A statement '..UptoSaid' is the law's where the arguments, and the package variables that the reading takes, are together of bulk at most 1048576: NARROWER than '..Said'. Prove '..Said' where nothing that the law and all that it calls make is longer than what came in: it says more and counts as full. Else prove '..UptoSaid'. A law counts once. -/
mutual
def uptoBulk {H : Type} : DataW H → Nat
  | .lit (.string bytes) => bytes.length + 1
  | .lit _ => 1
  | .nil => 1
  | .ptr d => uptoBulk d + 1
  | .slice elems spare => uptoBulkAll elems + uptoBulkAll spare + 1
  | .agg parts => uptoBulkAll parts + 1
  | .iface _ d => uptoBulk d + 1
  | .map entries => uptoBulkEntries entries + 1
  | .held _ => 1
def uptoBulkAll {H : Type} : List (DataW H) → Nat
  | [] => 0
  | d :: r => uptoBulk d + uptoBulkAll r
def uptoBulkEntries {H : Type} : List (Lit × DataW H) → Nat
  | [] => 0
  | x :: r => uptoBulkEntry x + uptoBulkEntries r
def uptoBulkEntry {H : Type} : Lit × DataW H → Nat
  | (.string bytes, d) => bytes.length + uptoBulk d + 1
  | (_, d) => uptoBulk d + 1
 end
def uptoSmall : (H : Type) → List (DataW H) → Bool := fun _ ds => decide (uptoBulkAll ds ≤ 1048576)
def OpenSpec.upto (s : _root_.Go.ChangeSpec) : _root_.Go.OpenSpec := { _root_.Go.OpenSpec.ofChange s with cond := some uptoSmall }

/-- 'laws.FnExactGoodSamples', WHERE WHAT IT READS IS OF BULK AT MOST 1048576: true; the input reads as it did. -/
def fnExactGoodSamplesUptoRow : OpenClaim := { program := "ytdmcfllmhjdleaa", sum := "ce284d0948d8c1cf4bcca90d7d213f3ba2adc4039d64dae440e328a091864df0", func := "loop.example/g00522/laws.FnExactGoodSamples", spec := "fnExactGoodSamples", apart := false, narrowed := true }
def FnExactGoodSamplesUptoSaid : Prop := fnExactGoodSamplesUptoRow.holds Try.pinned (OpenSpec.upto fnExactGoodSamplesSpec)

/-- 'laws.FnExactDeltasOf', WHERE WHAT IT READS IS OF BULK AT MOST 1048576: true; the input reads as it did. -/
def fnExactDeltasOfUptoRow : OpenClaim := { program := "ytdmcfllmhjdleaa", sum := "ce284d0948d8c1cf4bcca90d7d213f3ba2adc4039d64dae440e328a091864df0", func := "loop.example/g00522/laws.FnExactDeltasOf", spec := "fnExactDeltasOf", unfollowed := true, recurses := true, apart := false, narrowed := true }
def FnExactDeltasOfUptoSaid : Prop := fnExactDeltasOfUptoRow.holds Try.pinned (OpenSpec.upto fnExactDeltasOfSpec)

/-- 'laws.FnExactSumsOf', WHERE WHAT IT READS IS OF BULK AT MOST 1048576: true; the input reads as it did. -/
def fnExactSumsOfUptoRow : OpenClaim := { program := "ytdmcfllmhjdleaa", sum := "ce284d0948d8c1cf4bcca90d7d213f3ba2adc4039d64dae440e328a091864df0", func := "loop.example/g00522/laws.FnExactSumsOf", spec := "fnExactSumsOf", unfollowed := true, recurses := true, apart := false, narrowed := true }
def FnExactSumsOfUptoSaid : Prop := fnExactSumsOfUptoRow.holds Try.pinned (OpenSpec.upto fnExactSumsOfSpec)

/-- 'laws.FnExactChunkSize', WHERE WHAT IT READS IS OF BULK AT MOST 1048576: true; the input reads as it did. -/
def fnExactChunkSizeUptoRow : OpenClaim := { program := "ytdmcfllmhjdleaa", sum := "ce284d0948d8c1cf4bcca90d7d213f3ba2adc4039d64dae440e328a091864df0", func := "loop.example/g00522/laws.FnExactChunkSize", spec := "fnExactChunkSize", apart := false, narrowed := true }
def FnExactChunkSizeUptoSaid : Prop := fnExactChunkSizeUptoRow.holds Try.pinned (OpenSpec.upto fnExactChunkSizeSpec)

/-- 'laws.FnExactEncodeChunk', WHERE WHAT IT READS IS OF BULK AT MOST 1048576: true; the input reads as it did. -/
def fnExactEncodeChunkUptoRow : OpenClaim := { program := "ytdmcfllmhjdleaa", sum := "ce284d0948d8c1cf4bcca90d7d213f3ba2adc4039d64dae440e328a091864df0", func := "loop.example/g00522/laws.FnExactEncodeChunk", spec := "fnExactEncodeChunk", apart := false, narrowed := true }
def FnExactEncodeChunkUptoSaid : Prop := fnExactEncodeChunkUptoRow.holds Try.pinned (OpenSpec.upto fnExactEncodeChunkSpec)

/-- 'laws.FnExactJoinChunks', WHERE WHAT IT READS IS OF BULK AT MOST 1048576: true; the input reads as it did. -/
def fnExactJoinChunksUptoRow : OpenClaim := { program := "ytdmcfllmhjdleaa", sum := "ce284d0948d8c1cf4bcca90d7d213f3ba2adc4039d64dae440e328a091864df0", func := "loop.example/g00522/laws.FnExactJoinChunks", spec := "fnExactJoinChunks", apart := false, narrowed := true }
def FnExactJoinChunksUptoSaid : Prop := fnExactJoinChunksUptoRow.holds Try.pinned (OpenSpec.upto fnExactJoinChunksSpec)

/-- 'laws.FnExactAppendChunk', WHERE WHAT IT READS IS OF BULK AT MOST 1048576: true; the input reads as it did. -/
def fnExactAppendChunkUptoRow : OpenClaim := { program := "ytdmcfllmhjdleaa", sum := "ce284d0948d8c1cf4bcca90d7d213f3ba2adc4039d64dae440e328a091864df0", func := "loop.example/g00522/laws.FnExactAppendChunk", spec := "fnExactAppendChunk", apart := false, narrowed := true }
def FnExactAppendChunkUptoSaid : Prop := fnExactAppendChunkUptoRow.holds Try.pinned (OpenSpec.upto fnExactAppendChunkSpec)

/-- 'laws.FnExactDecodeChunk', WHERE WHAT IT READS IS OF BULK AT MOST 1048576: true; the input reads as it did. -/
def fnExactDecodeChunkUptoRow : OpenClaim := { program := "ytdmcfllmhjdleaa", sum := "ce284d0948d8c1cf4bcca90d7d213f3ba2adc4039d64dae440e328a091864df0", func := "loop.example/g00522/laws.FnExactDecodeChunk", spec := "fnExactDecodeChunk", apart := false, narrowed := true }
def FnExactDecodeChunkUptoSaid : Prop := fnExactDecodeChunkUptoRow.holds Try.pinned (OpenSpec.upto fnExactDecodeChunkSpec)

/-- 'laws.FnExactRangeOf', WHERE WHAT IT READS IS OF BULK AT MOST 1048576: true; the input reads as it did. -/
def fnExactRangeOfUptoRow : OpenClaim := { program := "ytdmcfllmhjdleaa", sum := "ce284d0948d8c1cf4bcca90d7d213f3ba2adc4039d64dae440e328a091864df0", func := "loop.example/g00522/laws.FnExactRangeOf", spec := "fnExactRangeOf", unfollowed := true, recurses := true, apart := false, narrowed := true }
def FnExactRangeOfUptoSaid : Prop := fnExactRangeOfUptoRow.holds Try.pinned (OpenSpec.upto fnExactRangeOfSpec)

/-- 'laws.FnVarints', WHERE WHAT IT READS IS OF BULK AT MOST 1048576: true; the input reads as it did. -/
def fnVarintsUptoRow : OpenClaim := { program := "ytdmcfllmhjdleaa", sum := "ce284d0948d8c1cf4bcca90d7d213f3ba2adc4039d64dae440e328a091864df0", func := "loop.example/g00522/laws.FnVarints", spec := "fnVarints", inPlace := ["internal/abi.NoEscape"], unfollowed := true, recurses := true, apart := false, narrowed := true }
def FnVarintsUptoSaid : Prop := fnVarintsUptoRow.holds Try.pinned (OpenSpec.upto fnVarintsSpec)

/-- 'laws.FnRanges', WHERE WHAT IT READS IS OF BULK AT MOST 1048576: true; the input reads as it did. -/
def fnRangesUptoRow : OpenClaim := { program := "ytdmcfllmhjdleaa", sum := "ce284d0948d8c1cf4bcca90d7d213f3ba2adc4039d64dae440e328a091864df0", func := "loop.example/g00522/laws.FnRanges", spec := "fnRanges", unfollowed := true, recurses := true, apart := false, narrowed := true }
def FnRangesUptoSaid : Prop := fnRangesUptoRow.holds Try.pinned (OpenSpec.upto fnRangesSpec)

/-- 'laws.FnChunks', WHERE WHAT IT READS IS OF BULK AT MOST 1048576: true; the input reads as it did. -/
def fnChunksUptoRow : OpenClaim := { program := "ytdmcfllmhjdleaa", sum := "ce284d0948d8c1cf4bcca90d7d213f3ba2adc4039d64dae440e328a091864df0", func := "loop.example/g00522/laws.FnChunks", spec := "fnChunks", unfollowed := true, recurses := true, apart := false, narrowed := true }
def FnChunksUptoSaid : Prop := fnChunksUptoRow.holds Try.pinned (OpenSpec.upto fnChunksSpec)

end Rows
end Go.Proofs.Ytdmcfllmhjdleaa
