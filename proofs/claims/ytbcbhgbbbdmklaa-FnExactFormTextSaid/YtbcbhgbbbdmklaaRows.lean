/-
  No cell of these rows narrows 'for every input' (looked for: loops, veiled, ifaces, maps, wideKeys, modest, calm, conditions, laid).
  DERIVED. THE GIVEN ROWS OF THIS SEAT. 7 by the template 'for every input the law returns true; each argument reads behind the call as it read before'; 0 by the template 'total and deterministic' (their statements: YtbcbhgbbbdmklaaTotals.lean).
  GIVEN WITH THE SEED: the statements are not yours to turn. If you find one false, say at which input.
  Laid BY PROGRAM, IN A SANDBOX (cutbox-rows.mjs): the forced cells as the released guide's own fill.sh prints them over the translation c12c5b72f2cc3c41… (all of the seat's roots in one cut). By AI agents, Wed Nov 11 2026. No macro, syntax, notation, axiom, sorry.
-/
import Derived.Test.YtbcbhgbbbdmklaaChecked
import GoSem.Claim
import GoSem.ClaimJoined
import GoSem.ClaimMapViews
import Derived.JoinedTies
import Derived.KernelRfl
namespace Go.Proofs.Ytbcbhgbbbdmklaa
/- THE CELL 'sum', in the pinned program and in every row, IS THE sha256 OF THE DUMP (.gsa) THAT YtbcbhgbbbdmklaaProg.lean LOADS. Nothing in Lean hashes anything: it is a label: what it is worth is what the hold of that sum in a sandbox is worth. -/
noncomputable def Try.pinned : Pinned := { name := "ytbcbhgbbbdmklaa", sum := "c12c5b72f2cc3c41d19acf693939c9a6177d1a83ed2530472cefb8e894b99d30", checked := Try.checked }
namespace Rows
def none {H : Type} : Left H := { results := [], args := [] }

/-- 'laws.FnExactGoodForm': WHATEVER THE INPUT: true; the input reads as it did. -/
def fnExactGoodFormSpec : ChangeSpec := { name := "fnExactGoodForm", fn := fun _ => fun
  | [d] => { results := [.lit (.bool true)], args := [d] }
  | _ => none }
def fnExactGoodFormRow : OpenClaim := { program := "ytbcbhgbbbdmklaa", sum := "c12c5b72f2cc3c41d19acf693939c9a6177d1a83ed2530472cefb8e894b99d30", func := "loop.example/g00522/laws.FnExactGoodForm", spec := "fnExactGoodForm", unfollowed := true, recurses := true, apart := false }
def FnExactGoodFormSaid : Prop := fnExactGoodFormRow.holds Try.pinned (OpenSpec.ofChange fnExactGoodFormSpec)

/-- ITS FALSE NEIGHBOUR: 'it returns false'. Refute it at one input. -/
def fnExactGoodFormWrong : ChangeSpec := { name := "fnExactGoodForm", fn := fun _ => fun
  | [d] => { results := [.lit (.bool false)], args := [d] }
  | _ => none }
def FnExactGoodFormWrongFalsely : Prop := fnExactGoodFormRow.holds Try.pinned (OpenSpec.ofChange fnExactGoodFormWrong)

/-- 'laws.FnExactHasEmpty': WHATEVER THE INPUT: true; the input reads as it did. -/
def fnExactHasEmptySpec : ChangeSpec := { name := "fnExactHasEmpty", fn := fun _ => fun
  | [d] => { results := [.lit (.bool true)], args := [d] }
  | _ => none }
def fnExactHasEmptyRow : OpenClaim := { program := "ytbcbhgbbbdmklaa", sum := "c12c5b72f2cc3c41d19acf693939c9a6177d1a83ed2530472cefb8e894b99d30", func := "loop.example/g00522/laws.FnExactHasEmpty", spec := "fnExactHasEmpty", unfollowed := true, recurses := true, apart := false }
def FnExactHasEmptySaid : Prop := fnExactHasEmptyRow.holds Try.pinned (OpenSpec.ofChange fnExactHasEmptySpec)

/-- ITS FALSE NEIGHBOUR: 'it returns false'. Refute it at one input. -/
def fnExactHasEmptyWrong : ChangeSpec := { name := "fnExactHasEmpty", fn := fun _ => fun
  | [d] => { results := [.lit (.bool false)], args := [d] }
  | _ => none }
def FnExactHasEmptyWrongFalsely : Prop := fnExactHasEmptyRow.holds Try.pinned (OpenSpec.ofChange fnExactHasEmptyWrong)

/-- 'laws.FnExactNotForm': WHATEVER THE INPUT: true; the input reads as it did. -/
def fnExactNotFormSpec : ChangeSpec := { name := "fnExactNotForm", fn := fun _ => fun
  | [d] => { results := [.lit (.bool true)], args := [d] }
  | _ => none }
def fnExactNotFormRow : OpenClaim := { program := "ytbcbhgbbbdmklaa", sum := "c12c5b72f2cc3c41d19acf693939c9a6177d1a83ed2530472cefb8e894b99d30", func := "loop.example/g00522/laws.FnExactNotForm", spec := "fnExactNotForm", unfollowed := true, recurses := true, apart := false }
def FnExactNotFormSaid : Prop := fnExactNotFormRow.holds Try.pinned (OpenSpec.ofChange fnExactNotFormSpec)

/-- ITS FALSE NEIGHBOUR: 'it returns false'. Refute it at one input. -/
def fnExactNotFormWrong : ChangeSpec := { name := "fnExactNotForm", fn := fun _ => fun
  | [d] => { results := [.lit (.bool false)], args := [d] }
  | _ => none }
def FnExactNotFormWrongFalsely : Prop := fnExactNotFormRow.holds Try.pinned (OpenSpec.ofChange fnExactNotFormWrong)

/-- 'laws.FnExactFormText': WHATEVER THE INPUT: true; the input reads as it did. -/
def fnExactFormTextSpec : ChangeSpec := { name := "fnExactFormText", fn := fun _ => fun
  | [d] => { results := [.lit (.bool true)], args := [d] }
  | _ => none }
def fnExactFormTextRow : OpenClaim := { program := "ytbcbhgbbbdmklaa", sum := "c12c5b72f2cc3c41d19acf693939c9a6177d1a83ed2530472cefb8e894b99d30", func := "loop.example/g00522/laws.FnExactFormText", spec := "fnExactFormText", unfollowed := true, recurses := true, apart := false }
def FnExactFormTextSaid : Prop := fnExactFormTextRow.holds Try.pinned (OpenSpec.ofChange fnExactFormTextSpec)

/-- ITS FALSE NEIGHBOUR: 'it returns false'. Refute it at one input. -/
def fnExactFormTextWrong : ChangeSpec := { name := "fnExactFormText", fn := fun _ => fun
  | [d] => { results := [.lit (.bool false)], args := [d] }
  | _ => none }
def FnExactFormTextWrongFalsely : Prop := fnExactFormTextRow.holds Try.pinned (OpenSpec.ofChange fnExactFormTextWrong)

/-- 'laws.FnExactWordsOf': WHATEVER THE INPUT: true; the input reads as it did. -/
def fnExactWordsOfSpec : ChangeSpec := { name := "fnExactWordsOf", fn := fun _ => fun
  | [d1, d2] => { results := [.lit (.bool true)], args := [d1, d2] }
  | _ => none }
def fnExactWordsOfRow : OpenClaim := { program := "ytbcbhgbbbdmklaa", sum := "c12c5b72f2cc3c41d19acf693939c9a6177d1a83ed2530472cefb8e894b99d30", func := "loop.example/g00522/laws.FnExactWordsOf", spec := "fnExactWordsOf", unfollowed := true, recurses := true, apart := false }
def FnExactWordsOfSaid : Prop := fnExactWordsOfRow.holds Try.pinned (OpenSpec.ofChange fnExactWordsOfSpec)

/-- ITS FALSE NEIGHBOUR: 'it returns false'. Refute it at one input. -/
def fnExactWordsOfWrong : ChangeSpec := { name := "fnExactWordsOf", fn := fun _ => fun
  | [d1, d2] => { results := [.lit (.bool false)], args := [d1, d2] }
  | _ => none }
def FnExactWordsOfWrongFalsely : Prop := fnExactWordsOfRow.holds Try.pinned (OpenSpec.ofChange fnExactWordsOfWrong)

/-- 'laws.FnExactNewLog': WHATEVER THE INPUT: true; the input reads as it did. -/
def fnExactNewLogSpec : ChangeSpec := { name := "fnExactNewLog", fn := fun _ => fun
  | [] => { results := [.lit (.bool true)], args := [] }
  | _ => none }
def fnExactNewLogRow : OpenClaim := { program := "ytbcbhgbbbdmklaa", sum := "c12c5b72f2cc3c41d19acf693939c9a6177d1a83ed2530472cefb8e894b99d30", func := "loop.example/g00522/laws.FnExactNewLog", spec := "fnExactNewLog", apart := false }
def FnExactNewLogSaid : Prop := fnExactNewLogRow.holds Try.pinned (OpenSpec.ofChange fnExactNewLogSpec)

/-- ITS FALSE NEIGHBOUR: 'it returns false'. Refute it at one input. -/
def fnExactNewLogWrong : ChangeSpec := { name := "fnExactNewLog", fn := fun _ => fun
  | [] => { results := [.lit (.bool false)], args := [] }
  | _ => none }
def FnExactNewLogWrongFalsely : Prop := fnExactNewLogRow.holds Try.pinned (OpenSpec.ofChange fnExactNewLogWrong)

/-- 'laws.FnExactRecoverPiece': WHATEVER THE INPUT: true; the input reads as it did. -/
def fnExactRecoverPieceSpec : ChangeSpec := { name := "fnExactRecoverPiece", fn := fun _ => fun
  | [d1, d2] => { results := [.lit (.bool true)], args := [d1, d2] }
  | _ => none }
def fnExactRecoverPieceRow : OpenClaim := { program := "ytbcbhgbbbdmklaa", sum := "c12c5b72f2cc3c41d19acf693939c9a6177d1a83ed2530472cefb8e894b99d30", func := "loop.example/g00522/laws.FnExactRecoverPiece", spec := "fnExactRecoverPiece", apart := false }
def FnExactRecoverPieceSaid : Prop := fnExactRecoverPieceRow.holds Try.pinned (OpenSpec.ofChange fnExactRecoverPieceSpec)

/-- ITS FALSE NEIGHBOUR: 'it returns false'. Refute it at one input. -/
def fnExactRecoverPieceWrong : ChangeSpec := { name := "fnExactRecoverPiece", fn := fun _ => fun
  | [d1, d2] => { results := [.lit (.bool false)], args := [d1, d2] }
  | _ => none }
def FnExactRecoverPieceWrongFalsely : Prop := fnExactRecoverPieceRow.holds Try.pinned (OpenSpec.ofChange fnExactRecoverPieceWrong)

/- THE SECOND FORM. 'bulk': how many values and letters a reading holds, each counted each time it is reached (what is shared counts as often as it is met; a slice's spare places count too). A statement '..UptoSaid' is the law's where the arguments, and the package variables that the reading takes, are together of bulk at most 1048576: NARROWER than '..Said'. Prove '..Said' where nothing that the law and all that it calls make is longer than what came in: it says more and counts as full. Else prove '..UptoSaid'. A law counts once. -/
mutual
def uptoBulk {H : Type} : DataW H → Nat
  | .lit (.string bytes) => bytes.length + 1
  | .lit _ => 1
  | .nil => 1
  | .ptr d => uptoBulk d + 1
  | .slice elems spare => uptoBulkAll elems + uptoBulkAll spare + 1
  | .agg parts => uptoBulkAll parts + 1
  | .iface _ d => uptoBulk d + 1
  | .map entries => uptoBulkEntries entries + 1
  | .held _ => 1
def uptoBulkAll {H : Type} : List (DataW H) → Nat
  | [] => 0
  | d :: r => uptoBulk d + uptoBulkAll r
def uptoBulkEntries {H : Type} : List (Lit × DataW H) → Nat
  | [] => 0
  | x :: r => uptoBulkEntry x + uptoBulkEntries r
def uptoBulkEntry {H : Type} : Lit × DataW H → Nat
  | (.string bytes, d) => bytes.length + uptoBulk d + 1
  | (_, d) => uptoBulk d + 1
 end
def uptoSmall : (H : Type) → List (DataW H) → Bool := fun _ ds => decide (uptoBulkAll ds ≤ 1048576)
def OpenSpec.upto (s : _root_.Go.ChangeSpec) : _root_.Go.OpenSpec := { _root_.Go.OpenSpec.ofChange s with cond := some uptoSmall }

/-- 'laws.FnExactGoodForm', WHERE WHAT IT READS IS OF BULK AT MOST 1048576: true; the input reads as it did. -/
def fnExactGoodFormUptoRow : OpenClaim := { program := "ytbcbhgbbbdmklaa", sum := "c12c5b72f2cc3c41d19acf693939c9a6177d1a83ed2530472cefb8e894b99d30", func := "loop.example/g00522/laws.FnExactGoodForm", spec := "fnExactGoodForm", unfollowed := true, recurses := true, apart := false, narrowed := true }
def FnExactGoodFormUptoSaid : Prop := fnExactGoodFormUptoRow.holds Try.pinned (OpenSpec.upto fnExactGoodFormSpec)

/-- 'laws.FnExactHasEmpty', WHERE WHAT IT READS IS OF BULK AT MOST 1048576: true; the input reads as it did. -/
def fnExactHasEmptyUptoRow : OpenClaim := { program := "ytbcbhgbbbdmklaa", sum := "c12c5b72f2cc3c41d19acf693939c9a6177d1a83ed2530472cefb8e894b99d30", func := "loop.example/g00522/laws.FnExactHasEmpty", spec := "fnExactHasEmpty", unfollowed := true, recurses := true, apart := false, narrowed := true }
def FnExactHasEmptyUptoSaid : Prop := fnExactHasEmptyUptoRow.holds Try.pinned (OpenSpec.upto fnExactHasEmptySpec)

/-- 'laws.FnExactNotForm', WHERE WHAT IT READS IS OF BULK AT MOST 1048576: true; the input reads as it did. -/
def fnExactNotFormUptoRow : OpenClaim := { program := "ytbcbhgbbbdmklaa", sum := "c12c5b72f2cc3c41d19acf693939c9a6177d1a83ed2530472cefb8e894b99d30", func := "loop.example/g00522/laws.FnExactNotForm", spec := "fnExactNotForm", unfollowed := true, recurses := true, apart := false, narrowed := true }
def FnExactNotFormUptoSaid : Prop := fnExactNotFormUptoRow.holds Try.pinned (OpenSpec.upto fnExactNotFormSpec)

/-- 'laws.FnExactFormText', WHERE WHAT IT READS IS OF BULK AT MOST 1048576: true; the input reads as it did. -/
def fnExactFormTextUptoRow : OpenClaim := { program := "ytbcbhgbbbdmklaa", sum := "c12c5b72f2cc3c41d19acf693939c9a6177d1a83ed2530472cefb8e894b99d30", func := "loop.example/g00522/laws.FnExactFormText", spec := "fnExactFormText", unfollowed := true, recurses := true, apart := false, narrowed := true }
def FnExactFormTextUptoSaid : Prop := fnExactFormTextUptoRow.holds Try.pinned (OpenSpec.upto fnExactFormTextSpec)

/-- 'laws.FnExactWordsOf', WHERE WHAT IT READS IS OF BULK AT MOST 1048576: true; the input reads as it did. -/
def fnExactWordsOfUptoRow : OpenClaim := { program := "ytbcbhgbbbdmklaa", sum := "c12c5b72f2cc3c41d19acf693939c9a6177d1a83ed2530472cefb8e894b99d30", func := "loop.example/g00522/laws.FnExactWordsOf", spec := "fnExactWordsOf", unfollowed := true, recurses := true, apart := false, narrowed := true }
def FnExactWordsOfUptoSaid : Prop := fnExactWordsOfUptoRow.holds Try.pinned (OpenSpec.upto fnExactWordsOfSpec)

/-- 'laws.FnExactNewLog', WHERE WHAT IT READS IS OF BULK AT MOST 1048576: true; the input reads as it did. -/
def fnExactNewLogUptoRow : OpenClaim := { program := "ytbcbhgbbbdmklaa", sum := "c12c5b72f2cc3c41d19acf693939c9a6177d1a83ed2530472cefb8e894b99d30", func := "loop.example/g00522/laws.FnExactNewLog", spec := "fnExactNewLog", apart := false, narrowed := true }
def FnExactNewLogUptoSaid : Prop := fnExactNewLogUptoRow.holds Try.pinned (OpenSpec.upto fnExactNewLogSpec)

/-- 'laws.FnExactRecoverPiece', WHERE WHAT IT READS IS OF BULK AT MOST 1048576: true; the input reads as it did. -/
def fnExactRecoverPieceUptoRow : OpenClaim := { program := "ytbcbhgbbbdmklaa", sum := "c12c5b72f2cc3c41d19acf693939c9a6177d1a83ed2530472cefb8e894b99d30", func := "loop.example/g00522/laws.FnExactRecoverPiece", spec := "fnExactRecoverPiece", apart := false, narrowed := true }
def FnExactRecoverPieceUptoSaid : Prop := fnExactRecoverPieceUptoRow.holds Try.pinned (OpenSpec.upto fnExactRecoverPieceSpec)

end Rows
end Go.Proofs.Ytbcbhgbbbdmklaa
