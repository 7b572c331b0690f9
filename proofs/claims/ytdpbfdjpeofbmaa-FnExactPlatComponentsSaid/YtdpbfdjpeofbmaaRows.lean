/-
  No cell of these rows narrows 'for every input' (looked for: loops, veiled, ifaces, maps, wideKeys, modest, calm, conditions, laid).
  DERIVED. THE GIVEN ROWS OF THIS SEAT. 13 by the template 'for every input the law returns true; each argument reads behind the call as it read before'; 0 by the template 'total and deterministic' (their statements: YtdpbfdjpeofbmaaTotals.lean).
  GIVEN WITH THE SEED: the statements are not yours to turn. If you find one false, say at which input.
  Laid BY PROGRAM, IN A SANDBOX (cutbox-rows.mjs): the forced cells as the released guide's own fill.sh prints them over the translation a6fa3414b3fe79b9… (all of the seat's roots in one cut). By AI agents, Wed Nov 11 2026. No macro, syntax, notation, axiom, sorry.
-/
import Derived.Test.YtdpbfdjpeofbmaaChecked
import GoSem.Claim
import GoSem.ClaimJoined
import GoSem.ClaimMapViews
import Derived.JoinedTies
import Derived.KernelRfl
namespace Go.Proofs.Ytdpbfdjpeofbmaa
/- THE CELL 'sum', in the pinned program and in every row, IS THE sha256 OF THE DUMP (.gsa) THAT YtdpbfdjpeofbmaaProg.lean LOADS. Nothing in Lean hashes anything: it is a label: what it is worth is what the hold of that sum in a sandbox is worth. -/
noncomputable def Try.pinned : Pinned := { name := "ytdpbfdjpeofbmaa", sum := "a6fa3414b3fe79b9d372adcfb5e477900bfdd331ddf2543cb1d7f4779614af75", checked := Try.checked }
namespace Rows
def none {H : Type} : Left H := { results := [], args := [] }

/-- 'laws.FnExactCountColourings': WHATEVER THE INPUT: true; the input reads as it did. -/
def fnExactCountColouringsSpec : ChangeSpec := { name := "fnExactCountColourings", fn := fun _ => fun
  | [d1, d2] => { results := [.lit (.bool true)], args := [d1, d2] }
  | _ => none }
def fnExactCountColouringsRow : OpenClaim := { program := "ytdpbfdjpeofbmaa", sum := "a6fa3414b3fe79b9d372adcfb5e477900bfdd331ddf2543cb1d7f4779614af75", func := "loop.example/g01205/laws.FnExactCountColourings", spec := "fnExactCountColourings", plainKeys := false, apart := false }
def FnExactCountColouringsSaid : Prop := fnExactCountColouringsRow.holds Try.pinned (OpenSpec.ofChange fnExactCountColouringsSpec)

/-- ITS FALSE NEIGHBOUR: 'it returns false'. Refute it at one input. -/
def fnExactCountColouringsWrong : ChangeSpec := { name := "fnExactCountColourings", fn := fun _ => fun
  | [d1, d2] => { results := [.lit (.bool false)], args := [d1, d2] }
  | _ => none }
def FnExactCountColouringsWrongFalsely : Prop := fnExactCountColouringsRow.holds Try.pinned (OpenSpec.ofChange fnExactCountColouringsWrong)

/-- 'laws.FnExactDeterminantIn': WHATEVER THE INPUT: true; the input reads as it did. -/
def fnExactDeterminantInSpec : ChangeSpec := { name := "fnExactDeterminantIn", fn := fun _ => fun
  | [d] => { results := [.lit (.bool true)], args := [d] }
  | _ => none }
def fnExactDeterminantInRow : OpenClaim := { program := "ytdpbfdjpeofbmaa", sum := "a6fa3414b3fe79b9d372adcfb5e477900bfdd331ddf2543cb1d7f4779614af75", func := "loop.example/g01205/laws.FnExactDeterminantIn", spec := "fnExactDeterminantIn", plainKeys := false, apart := false }
def FnExactDeterminantInSaid : Prop := fnExactDeterminantInRow.holds Try.pinned (OpenSpec.ofChange fnExactDeterminantInSpec)

/-- ITS FALSE NEIGHBOUR: 'it returns false'. Refute it at one input. -/
def fnExactDeterminantInWrong : ChangeSpec := { name := "fnExactDeterminantIn", fn := fun _ => fun
  | [d] => { results := [.lit (.bool false)], args := [d] }
  | _ => none }
def FnExactDeterminantInWrongFalsely : Prop := fnExactDeterminantInRow.holds Try.pinned (OpenSpec.ofChange fnExactDeterminantInWrong)

/-- 'laws.FnExactLinkingsOf': WHATEVER THE INPUT: true; the input reads as it did. -/
def fnExactLinkingsOfSpec : ChangeSpec := { name := "fnExactLinkingsOf", fn := fun _ => fun
  | [d] => { results := [.lit (.bool true)], args := [d] }
  | _ => none }
def fnExactLinkingsOfRow : OpenClaim := { program := "ytdpbfdjpeofbmaa", sum := "a6fa3414b3fe79b9d372adcfb5e477900bfdd331ddf2543cb1d7f4779614af75", func := "loop.example/g01205/laws.FnExactLinkingsOf", spec := "fnExactLinkingsOf", unfollowed := true, recurses := true, plainKeys := false, apart := false }
def FnExactLinkingsOfSaid : Prop := fnExactLinkingsOfRow.holds Try.pinned (OpenSpec.ofChange fnExactLinkingsOfSpec)

/-- ITS FALSE NEIGHBOUR: 'it returns false'. Refute it at one input. -/
def fnExactLinkingsOfWrong : ChangeSpec := { name := "fnExactLinkingsOf", fn := fun _ => fun
  | [d] => { results := [.lit (.bool false)], args := [d] }
  | _ => none }
def FnExactLinkingsOfWrongFalsely : Prop := fnExactLinkingsOfRow.holds Try.pinned (OpenSpec.ofChange fnExactLinkingsOfWrong)

/-- 'laws.FnExactInverseMatrix': WHATEVER THE INPUT: true; the input reads as it did. -/
def fnExactInverseMatrixSpec : ChangeSpec := { name := "fnExactInverseMatrix", fn := fun _ => fun
  | [d] => { results := [.lit (.bool true)], args := [d] }
  | _ => none }
def fnExactInverseMatrixRow : OpenClaim := { program := "ytdpbfdjpeofbmaa", sum := "a6fa3414b3fe79b9d372adcfb5e477900bfdd331ddf2543cb1d7f4779614af75", func := "loop.example/g01205/laws.FnExactInverseMatrix", spec := "fnExactInverseMatrix", plainKeys := false, apart := false }
def FnExactInverseMatrixSaid : Prop := fnExactInverseMatrixRow.holds Try.pinned (OpenSpec.ofChange fnExactInverseMatrixSpec)

/-- ITS FALSE NEIGHBOUR: 'it returns false'. Refute it at one input. -/
def fnExactInverseMatrixWrong : ChangeSpec := { name := "fnExactInverseMatrix", fn := fun _ => fun
  | [d] => { results := [.lit (.bool false)], args := [d] }
  | _ => none }
def FnExactInverseMatrixWrongFalsely : Prop := fnExactInverseMatrixRow.holds Try.pinned (OpenSpec.ofChange fnExactInverseMatrixWrong)

/-- 'laws.FnExactBurauModulo': WHATEVER THE INPUT: true; the input reads as it did. -/
def fnExactBurauModuloSpec : ChangeSpec := { name := "fnExactBurauModulo", fn := fun _ => fun
  | [d1, d2] => { results := [.lit (.bool true)], args := [d1, d2] }
  | _ => none }
def fnExactBurauModuloRow : OpenClaim := { program := "ytdpbfdjpeofbmaa", sum := "a6fa3414b3fe79b9d372adcfb5e477900bfdd331ddf2543cb1d7f4779614af75", func := "loop.example/g01205/laws.FnExactBurauModulo", spec := "fnExactBurauModulo", unfollowed := true, recurses := true, plainKeys := false, apart := false }
def FnExactBurauModuloSaid : Prop := fnExactBurauModuloRow.holds Try.pinned (OpenSpec.ofChange fnExactBurauModuloSpec)

/-- ITS FALSE NEIGHBOUR: 'it returns false'. Refute it at one input. -/
def fnExactBurauModuloWrong : ChangeSpec := { name := "fnExactBurauModulo", fn := fun _ => fun
  | [d1, d2] => { results := [.lit (.bool false)], args := [d1, d2] }
  | _ => none }
def FnExactBurauModuloWrongFalsely : Prop := fnExactBurauModuloRow.holds Try.pinned (OpenSpec.ofChange fnExactBurauModuloWrong)

/-- 'laws.FnFieldMatrices': WHATEVER THE INPUT: true; the input reads as it did. -/
def fnFieldMatricesSpec : ChangeSpec := { name := "fnFieldMatrices", fn := fun _ => fun
  | [d] => { results := [.lit (.bool true)], args := [d] }
  | _ => none }
def fnFieldMatricesRow : OpenClaim := { program := "ytdpbfdjpeofbmaa", sum := "a6fa3414b3fe79b9d372adcfb5e477900bfdd331ddf2543cb1d7f4779614af75", func := "loop.example/g01205/laws.FnFieldMatrices", spec := "fnFieldMatrices", plainKeys := false, apart := false }
def FnFieldMatricesSaid : Prop := fnFieldMatricesRow.holds Try.pinned (OpenSpec.ofChange fnFieldMatricesSpec)

/-- ITS FALSE NEIGHBOUR: 'it returns false'. Refute it at one input. -/
def fnFieldMatricesWrong : ChangeSpec := { name := "fnFieldMatrices", fn := fun _ => fun
  | [d] => { results := [.lit (.bool false)], args := [d] }
  | _ => none }
def FnFieldMatricesWrongFalsely : Prop := fnFieldMatricesRow.holds Try.pinned (OpenSpec.ofChange fnFieldMatricesWrong)

/-- 'laws.FnExactKrammerTrace': WHATEVER THE INPUT: true; the input reads as it did. -/
def fnExactKrammerTraceSpec : ChangeSpec := { name := "fnExactKrammerTrace", fn := fun _ => fun
  | [d1, d2, d3] => { results := [.lit (.bool true)], args := [d1, d2, d3] }
  | _ => none }
def fnExactKrammerTraceRow : OpenClaim := { program := "ytdpbfdjpeofbmaa", sum := "a6fa3414b3fe79b9d372adcfb5e477900bfdd331ddf2543cb1d7f4779614af75", func := "loop.example/g01205/laws.FnExactKrammerTrace", spec := "fnExactKrammerTrace", unfollowed := true, recurses := true, plainKeys := false, apart := false }
def FnExactKrammerTraceSaid : Prop := fnExactKrammerTraceRow.holds Try.pinned (OpenSpec.ofChange fnExactKrammerTraceSpec)

/-- ITS FALSE NEIGHBOUR: 'it returns false'. Refute it at one input. -/
def fnExactKrammerTraceWrong : ChangeSpec := { name := "fnExactKrammerTrace", fn := fun _ => fun
  | [d1, d2, d3] => { results := [.lit (.bool false)], args := [d1, d2, d3] }
  | _ => none }
def FnExactKrammerTraceWrongFalsely : Prop := fnExactKrammerTraceRow.holds Try.pinned (OpenSpec.ofChange fnExactKrammerTraceWrong)

/-- 'laws.FnExactKrammerMatrix': WHATEVER THE INPUT: true; the input reads as it did. -/
def fnExactKrammerMatrixSpec : ChangeSpec := { name := "fnExactKrammerMatrix", fn := fun _ => fun
  | [d1, d2, d3] => { results := [.lit (.bool true)], args := [d1, d2, d3] }
  | _ => none }
def fnExactKrammerMatrixRow : OpenClaim := { program := "ytdpbfdjpeofbmaa", sum := "a6fa3414b3fe79b9d372adcfb5e477900bfdd331ddf2543cb1d7f4779614af75", func := "loop.example/g01205/laws.FnExactKrammerMatrix", spec := "fnExactKrammerMatrix", unfollowed := true, recurses := true, plainKeys := false, apart := false }
def FnExactKrammerMatrixSaid : Prop := fnExactKrammerMatrixRow.holds Try.pinned (OpenSpec.ofChange fnExactKrammerMatrixSpec)

/-- ITS FALSE NEIGHBOUR: 'it returns false'. Refute it at one input. -/
def fnExactKrammerMatrixWrong : ChangeSpec := { name := "fnExactKrammerMatrix", fn := fun _ => fun
  | [d1, d2, d3] => { results := [.lit (.bool false)], args := [d1, d2, d3] }
  | _ => none }
def FnExactKrammerMatrixWrongFalsely : Prop := fnExactKrammerMatrixRow.holds Try.pinned (OpenSpec.ofChange fnExactKrammerMatrixWrong)

/-- 'laws.FnExactPlatBracket': WHATEVER THE INPUT: true; the input reads as it did. -/
def fnExactPlatBracketSpec : ChangeSpec := { name := "fnExactPlatBracket", fn := fun _ => fun
  | [d] => { results := [.lit (.bool true)], args := [d] }
  | _ => none }
def fnExactPlatBracketRow : OpenClaim := { program := "ytdpbfdjpeofbmaa", sum := "a6fa3414b3fe79b9d372adcfb5e477900bfdd331ddf2543cb1d7f4779614af75", func := "loop.example/g01205/laws.FnExactPlatBracket", spec := "fnExactPlatBracket", inPlace := ["math/bits.Add64"], plainKeys := false, apart := false }
def FnExactPlatBracketSaid : Prop := fnExactPlatBracketRow.holds Try.pinned (OpenSpec.ofChange fnExactPlatBracketSpec)

/-- ITS FALSE NEIGHBOUR: 'it returns false'. Refute it at one input. -/
def fnExactPlatBracketWrong : ChangeSpec := { name := "fnExactPlatBracket", fn := fun _ => fun
  | [d] => { results := [.lit (.bool false)], args := [d] }
  | _ => none }
def FnExactPlatBracketWrongFalsely : Prop := fnExactPlatBracketRow.holds Try.pinned (OpenSpec.ofChange fnExactPlatBracketWrong)

/-- 'laws.FnExactBracketOf': WHATEVER THE INPUT: true; the input reads as it did. -/
def fnExactBracketOfSpec : ChangeSpec := { name := "fnExactBracketOf", fn := fun _ => fun
  | [d] => { results := [.lit (.bool true)], args := [d] }
  | _ => none }
def fnExactBracketOfRow : OpenClaim := { program := "ytdpbfdjpeofbmaa", sum := "a6fa3414b3fe79b9d372adcfb5e477900bfdd331ddf2543cb1d7f4779614af75", func := "loop.example/g01205/laws.FnExactBracketOf", spec := "fnExactBracketOf", inPlace := ["math/bits.Add64"], plainKeys := false, apart := false }
def FnExactBracketOfSaid : Prop := fnExactBracketOfRow.holds Try.pinned (OpenSpec.ofChange fnExactBracketOfSpec)

/-- ITS FALSE NEIGHBOUR: 'it returns false'. Refute it at one input. -/
def fnExactBracketOfWrong : ChangeSpec := { name := "fnExactBracketOf", fn := fun _ => fun
  | [d] => { results := [.lit (.bool false)], args := [d] }
  | _ => none }
def FnExactBracketOfWrongFalsely : Prop := fnExactBracketOfRow.holds Try.pinned (OpenSpec.ofChange fnExactBracketOfWrong)

/-- 'laws.FnExactPlatComponents': WHATEVER THE INPUT: true; the input reads as it did. -/
def fnExactPlatComponentsSpec : ChangeSpec := { name := "fnExactPlatComponents", fn := fun _ => fun
  | [d] => { results := [.lit (.bool true)], args := [d] }
  | _ => none }
def fnExactPlatComponentsRow : OpenClaim := { program := "ytdpbfdjpeofbmaa", sum := "a6fa3414b3fe79b9d372adcfb5e477900bfdd331ddf2543cb1d7f4779614af75", func := "loop.example/g01205/laws.FnExactPlatComponents", spec := "fnExactPlatComponents", unfollowed := true, recurses := true, plainKeys := false, apart := false }
def FnExactPlatComponentsSaid : Prop := fnExactPlatComponentsRow.holds Try.pinned (OpenSpec.ofChange fnExactPlatComponentsSpec)

/-- ITS FALSE NEIGHBOUR: 'it returns false'. Refute it at one input. -/
def fnExactPlatComponentsWrong : ChangeSpec := { name := "fnExactPlatComponents", fn := fun _ => fun
  | [d] => { results := [.lit (.bool false)], args := [d] }
  | _ => none }
def FnExactPlatComponentsWrongFalsely : Prop := fnExactPlatComponentsRow.holds Try.pinned (OpenSpec.ofChange fnExactPlatComponentsWrong)

/-- 'laws.FnExactJonesOf': WHATEVER THE INPUT: true; the input reads as it did. -/
def fnExactJonesOfSpec : ChangeSpec := { name := "fnExactJonesOf", fn := fun _ => fun
  | [d] => { results := [.lit (.bool true)], args := [d] }
  | _ => none }
def fnExactJonesOfRow : OpenClaim := { program := "ytdpbfdjpeofbmaa", sum := "a6fa3414b3fe79b9d372adcfb5e477900bfdd331ddf2543cb1d7f4779614af75", func := "loop.example/g01205/laws.FnExactJonesOf", spec := "fnExactJonesOf", inPlace := ["math/bits.Add64", "math/bits.Sub64"], plainKeys := false, apart := false }
def FnExactJonesOfSaid : Prop := fnExactJonesOfRow.holds Try.pinned (OpenSpec.ofChange fnExactJonesOfSpec)

/-- ITS FALSE NEIGHBOUR: 'it returns false'. Refute it at one input. -/
def fnExactJonesOfWrong : ChangeSpec := { name := "fnExactJonesOf", fn := fun _ => fun
  | [d] => { results := [.lit (.bool false)], args := [d] }
  | _ => none }
def FnExactJonesOfWrongFalsely : Prop := fnExactJonesOfRow.holds Try.pinned (OpenSpec.ofChange fnExactJonesOfWrong)

/-- 'laws.FnExactComponentLinkings': WHATEVER THE INPUT: true; the input reads as it did. -/
def fnExactComponentLinkingsSpec : ChangeSpec := { name := "fnExactComponentLinkings", fn := fun _ => fun
  | [d] => { results := [.lit (.bool true)], args := [d] }
  | _ => none }
def fnExactComponentLinkingsRow : OpenClaim := { program := "ytdpbfdjpeofbmaa", sum := "a6fa3414b3fe79b9d372adcfb5e477900bfdd331ddf2543cb1d7f4779614af75", func := "loop.example/g01205/laws.FnExactComponentLinkings", spec := "fnExactComponentLinkings", unfollowed := true, recurses := true, plainKeys := false, apart := false }
def FnExactComponentLinkingsSaid : Prop := fnExactComponentLinkingsRow.holds Try.pinned (OpenSpec.ofChange fnExactComponentLinkingsSpec)

/-- ITS FALSE NEIGHBOUR: 'it returns false'. Refute it at one input. -/
def fnExactComponentLinkingsWrong : ChangeSpec := { name := "fnExactComponentLinkings", fn := fun _ => fun
  | [d] => { results := [.lit (.bool false)], args := [d] }
  | _ => none }
def FnExactComponentLinkingsWrongFalsely : Prop := fnExactComponentLinkingsRow.holds Try.pinned (OpenSpec.ofChange fnExactComponentLinkingsWrong)

/- THE SECOND FORM. 'bulk': how many values and letters a reading holds, each counted each time it is reached (what is shared counts as often as it is met; a slice's spare places count too). A statement '..UptoSaid' is the law's where the arguments, and the package variables that the reading takes, are together of bulk at most 1048576: NARROWER than '..Said'. Prove '..Said' where nothing that the law and all that it calls make is longer than what came in: it says more and counts as full. Else prove '..UptoSaid'. A law counts once. -/
mutual
def uptoBulk {H : Type} : DataW H → Nat
  | .lit (.string bytes) => bytes.length + 1
  | .lit _ => 1
  | .nil => 1
  | .ptr d => uptoBulk d + 1
  | .slice elems spare => uptoBulkAll elems + uptoBulkAll spare + 1
  | .agg parts => uptoBulkAll parts + 1
  | .iface _ d => uptoBulk d + 1
  | .map entries => uptoBulkEntries entries + 1
  | .held _ => 1
def uptoBulkAll {H : Type} : List (DataW H) → Nat
  | [] => 0
  | d :: r => uptoBulk d + uptoBulkAll r
def uptoBulkEntries {H : Type} : List (Lit × DataW H) → Nat
  | [] => 0
  | x :: r => uptoBulkEntry x + uptoBulkEntries r
def uptoBulkEntry {H : Type} : Lit × DataW H → Nat
  | (.string bytes, d) => bytes.length + uptoBulk d + 1
  | (_, d) => uptoBulk d + 1
 end
def uptoSmall : (H : Type) → List (DataW H) → Bool := fun _ ds => decide (uptoBulkAll ds ≤ 1048576)
def OpenSpec.upto (s : _root_.Go.ChangeSpec) : _root_.Go.OpenSpec := { _root_.Go.OpenSpec.ofChange s with cond := some uptoSmall }

/-- 'laws.FnExactCountColourings', WHERE WHAT IT READS IS OF BULK AT MOST 1048576: true; the input reads as it did. -/
def fnExactCountColouringsUptoRow : OpenClaim := { program := "ytdpbfdjpeofbmaa", sum := "a6fa3414b3fe79b9d372adcfb5e477900bfdd331ddf2543cb1d7f4779614af75", func := "loop.example/g01205/laws.FnExactCountColourings", spec := "fnExactCountColourings", plainKeys := false, apart := false, narrowed := true }
def FnExactCountColouringsUptoSaid : Prop := fnExactCountColouringsUptoRow.holds Try.pinned (OpenSpec.upto fnExactCountColouringsSpec)

/-- 'laws.FnExactDeterminantIn', WHERE WHAT IT READS IS OF BULK AT MOST 1048576: true; the input reads as it did. -/
def fnExactDeterminantInUptoRow : OpenClaim := { program := "ytdpbfdjpeofbmaa", sum := "a6fa3414b3fe79b9d372adcfb5e477900bfdd331ddf2543cb1d7f4779614af75", func := "loop.example/g01205/laws.FnExactDeterminantIn", spec := "fnExactDeterminantIn", plainKeys := false, apart := false, narrowed := true }
def FnExactDeterminantInUptoSaid : Prop := fnExactDeterminantInUptoRow.holds Try.pinned (OpenSpec.upto fnExactDeterminantInSpec)

/-- 'laws.FnExactLinkingsOf', WHERE WHAT IT READS IS OF BULK AT MOST 1048576: true; the input reads as it did. -/
def fnExactLinkingsOfUptoRow : OpenClaim := { program := "ytdpbfdjpeofbmaa", sum := "a6fa3414b3fe79b9d372adcfb5e477900bfdd331ddf2543cb1d7f4779614af75", func := "loop.example/g01205/laws.FnExactLinkingsOf", spec := "fnExactLinkingsOf", unfollowed := true, recurses := true, plainKeys := false, apart := false, narrowed := true }
def FnExactLinkingsOfUptoSaid : Prop := fnExactLinkingsOfUptoRow.holds Try.pinned (OpenSpec.upto fnExactLinkingsOfSpec)

/-- 'laws.FnExactInverseMatrix', WHERE WHAT IT READS IS OF BULK AT MOST 1048576: true; the input reads as it did. -/
def fnExactInverseMatrixUptoRow : OpenClaim := { program := "ytdpbfdjpeofbmaa", sum := "a6fa3414b3fe79b9d372adcfb5e477900bfdd331ddf2543cb1d7f4779614af75", func := "loop.example/g01205/laws.FnExactInverseMatrix", spec := "fnExactInverseMatrix", plainKeys := false, apart := false, narrowed := true }
def FnExactInverseMatrixUptoSaid : Prop := fnExactInverseMatrixUptoRow.holds Try.pinned (OpenSpec.upto fnExactInverseMatrixSpec)

/-- 'laws.FnExactBurauModulo', WHERE WHAT IT READS IS OF BULK AT MOST 1048576: true; the input reads as it did. -/
def fnExactBurauModuloUptoRow : OpenClaim := { program := "ytdpbfdjpeofbmaa", sum := "a6fa3414b3fe79b9d372adcfb5e477900bfdd331ddf2543cb1d7f4779614af75", func := "loop.example/g01205/laws.FnExactBurauModulo", spec := "fnExactBurauModulo", unfollowed := true, recurses := true, plainKeys := false, apart := false, narrowed := true }
def FnExactBurauModuloUptoSaid : Prop := fnExactBurauModuloUptoRow.holds Try.pinned (OpenSpec.upto fnExactBurauModuloSpec)

/-- 'laws.FnFieldMatrices', WHERE WHAT IT READS IS OF BULK AT MOST 1048576: true; the input reads as it did. -/
def fnFieldMatricesUptoRow : OpenClaim := { program := "ytdpbfdjpeofbmaa", sum := "a6fa3414b3fe79b9d372adcfb5e477900bfdd331ddf2543cb1d7f4779614af75", func := "loop.example/g01205/laws.FnFieldMatrices", spec := "fnFieldMatrices", plainKeys := false, apart := false, narrowed := true }
def FnFieldMatricesUptoSaid : Prop := fnFieldMatricesUptoRow.holds Try.pinned (OpenSpec.upto fnFieldMatricesSpec)

/-- 'laws.FnExactKrammerTrace', WHERE WHAT IT READS IS OF BULK AT MOST 1048576: true; the input reads as it did. -/
def fnExactKrammerTraceUptoRow : OpenClaim := { program := "ytdpbfdjpeofbmaa", sum := "a6fa3414b3fe79b9d372adcfb5e477900bfdd331ddf2543cb1d7f4779614af75", func := "loop.example/g01205/laws.FnExactKrammerTrace", spec := "fnExactKrammerTrace", unfollowed := true, recurses := true, plainKeys := false, apart := false, narrowed := true }
def FnExactKrammerTraceUptoSaid : Prop := fnExactKrammerTraceUptoRow.holds Try.pinned (OpenSpec.upto fnExactKrammerTraceSpec)

/-- 'laws.FnExactKrammerMatrix', WHERE WHAT IT READS IS OF BULK AT MOST 1048576: true; the input reads as it did. -/
def fnExactKrammerMatrixUptoRow : OpenClaim := { program := "ytdpbfdjpeofbmaa", sum := "a6fa3414b3fe79b9d372adcfb5e477900bfdd331ddf2543cb1d7f4779614af75", func := "loop.example/g01205/laws.FnExactKrammerMatrix", spec := "fnExactKrammerMatrix", unfollowed := true, recurses := true, plainKeys := false, apart := false, narrowed := true }
def FnExactKrammerMatrixUptoSaid : Prop := fnExactKrammerMatrixUptoRow.holds Try.pinned (OpenSpec.upto fnExactKrammerMatrixSpec)

/-- 'laws.FnExactPlatBracket', WHERE WHAT IT READS IS OF BULK AT MOST 1048576: true; the input reads as it did. -/
def fnExactPlatBracketUptoRow : OpenClaim := { program := "ytdpbfdjpeofbmaa", sum := "a6fa3414b3fe79b9d372adcfb5e477900bfdd331ddf2543cb1d7f4779614af75", func := "loop.example/g01205/laws.FnExactPlatBracket", spec := "fnExactPlatBracket", inPlace := ["math/bits.Add64"], plainKeys := false, apart := false, narrowed := true }
def FnExactPlatBracketUptoSaid : Prop := fnExactPlatBracketUptoRow.holds Try.pinned (OpenSpec.upto fnExactPlatBracketSpec)

/-- 'laws.FnExactBracketOf', WHERE WHAT IT READS IS OF BULK AT MOST 1048576: true; the input reads as it did. -/
def fnExactBracketOfUptoRow : OpenClaim := { program := "ytdpbfdjpeofbmaa", sum := "a6fa3414b3fe79b9d372adcfb5e477900bfdd331ddf2543cb1d7f4779614af75", func := "loop.example/g01205/laws.FnExactBracketOf", spec := "fnExactBracketOf", inPlace := ["math/bits.Add64"], plainKeys := false, apart := false, narrowed := true }
def FnExactBracketOfUptoSaid : Prop := fnExactBracketOfUptoRow.holds Try.pinned (OpenSpec.upto fnExactBracketOfSpec)

/-- 'laws.FnExactPlatComponents', WHERE WHAT IT READS IS OF BULK AT MOST 1048576: true; the input reads as it did. -/
def fnExactPlatComponentsUptoRow : OpenClaim := { program := "ytdpbfdjpeofbmaa", sum := "a6fa3414b3fe79b9d372adcfb5e477900bfdd331ddf2543cb1d7f4779614af75", func := "loop.example/g01205/laws.FnExactPlatComponents", spec := "fnExactPlatComponents", unfollowed := true, recurses := true, plainKeys := false, apart := false, narrowed := true }
def FnExactPlatComponentsUptoSaid : Prop := fnExactPlatComponentsUptoRow.holds Try.pinned (OpenSpec.upto fnExactPlatComponentsSpec)

/-- 'laws.FnExactJonesOf', WHERE WHAT IT READS IS OF BULK AT MOST 1048576: true; the input reads as it did. -/
def fnExactJonesOfUptoRow : OpenClaim := { program := "ytdpbfdjpeofbmaa", sum := "a6fa3414b3fe79b9d372adcfb5e477900bfdd331ddf2543cb1d7f4779614af75", func := "loop.example/g01205/laws.FnExactJonesOf", spec := "fnExactJonesOf", inPlace := ["math/bits.Add64", "math/bits.Sub64"], plainKeys := false, apart := false, narrowed := true }
def FnExactJonesOfUptoSaid : Prop := fnExactJonesOfUptoRow.holds Try.pinned (OpenSpec.upto fnExactJonesOfSpec)

/-- 'laws.FnExactComponentLinkings', WHERE WHAT IT READS IS OF BULK AT MOST 1048576: true; the input reads as it did. -/
def fnExactComponentLinkingsUptoRow : OpenClaim := { program := "ytdpbfdjpeofbmaa", sum := "a6fa3414b3fe79b9d372adcfb5e477900bfdd331ddf2543cb1d7f4779614af75", func := "loop.example/g01205/laws.FnExactComponentLinkings", spec := "fnExactComponentLinkings", unfollowed := true, recurses := true, plainKeys := false, apart := false, narrowed := true }
def FnExactComponentLinkingsUptoSaid : Prop := fnExactComponentLinkingsUptoRow.holds Try.pinned (OpenSpec.upto fnExactComponentLinkingsSpec)

end Rows
end Go.Proofs.Ytdpbfdjpeofbmaa
