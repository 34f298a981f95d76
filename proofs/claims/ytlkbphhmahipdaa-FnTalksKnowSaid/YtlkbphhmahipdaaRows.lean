/-
  No cell of these rows narrows 'for every input' (looked for: loops, veiled, ifaces, maps, wideKeys, modest, calm, conditions, laid).
  DERIVED. THE GIVEN ROWS OF THIS SEAT. 8 by the template 'for every input the law returns true; each argument reads behind the call as it read before'; 0 by the template 'total and deterministic' (their statements: YtlkbphhmahipdaaTotals.lean).
  GIVEN WITH THE SEED: the statements are not yours to turn. If you find one false, say at which input.
  Laid BY PROGRAM, IN A SANDBOX (cutbox-rows.mjs): the forced cells as the released guide's own fill.sh prints them over the translation c81c87a71355d9cf… (all of the seat's roots in one cut). By AI agents, Wed Nov 11 2026. No macro, syntax, notation, axiom, sorry.
-/
import Derived.Test.YtlkbphhmahipdaaChecked
import GoSem.Claim
import GoSem.ClaimJoined
import GoSem.ClaimMapViews
import Derived.JoinedTies
import Derived.KernelRfl
namespace Go.Proofs.Ytlkbphhmahipdaa
/- THE CELL 'sum', in the pinned program and in every row, IS THE sha256 OF THE DUMP (.gsa) THAT YtlkbphhmahipdaaProg.lean LOADS. Nothing in Lean hashes anything: it is a label: what it is worth is what the hold of that sum in a sandbox is worth. -/
noncomputable def Try.pinned : Pinned := { name := "ytlkbphhmahipdaa", sum := "c81c87a71355d9cfa3dbd67da3438891087b77c8a677992b9cf09fd684968e61", checked := Try.checked }
namespace Rows
def none {H : Type} : Left H := { results := [], args := [] }

/-- 'laws.FnExactLeastLimit': WHATEVER THE INPUT: true; the input reads as it did. -/
def fnExactLeastLimitSpec : ChangeSpec := { name := "fnExactLeastLimit", fn := fun _ => fun
  | [d1, d2, d3] => { results := [.lit (.bool true)], args := [d1, d2, d3] }
  | _ => none }
def fnExactLeastLimitRow : OpenClaim := { program := "ytlkbphhmahipdaa", sum := "c81c87a71355d9cfa3dbd67da3438891087b77c8a677992b9cf09fd684968e61", func := "loop.example/g01369/laws.FnExactLeastLimit", spec := "fnExactLeastLimit", inPlace := ["internal/bytealg.IndexByteString"], unfollowed := true, recurses := true, plainKeys := false, apart := false }
def FnExactLeastLimitSaid : Prop := fnExactLeastLimitRow.holds Try.pinned (OpenSpec.ofChange fnExactLeastLimitSpec)

/-- ITS FALSE NEIGHBOUR: 'it returns false'. Refute it at one input. -/
def fnExactLeastLimitWrong : ChangeSpec := { name := "fnExactLeastLimit", fn := fun _ => fun
  | [d1, d2, d3] => { results := [.lit (.bool false)], args := [d1, d2, d3] }
  | _ => none }
def FnExactLeastLimitWrongFalsely : Prop := fnExactLeastLimitRow.holds Try.pinned (OpenSpec.ofChange fnExactLeastLimitWrong)

/-- 'laws.FnExactPairsLeft': WHATEVER THE INPUT: true; the input reads as it did. -/
def fnExactPairsLeftSpec : ChangeSpec := { name := "fnExactPairsLeft", fn := fun _ => fun
  | [d1, d2] => { results := [.lit (.bool true)], args := [d1, d2] }
  | _ => none }
def fnExactPairsLeftRow : OpenClaim := { program := "ytlkbphhmahipdaa", sum := "c81c87a71355d9cfa3dbd67da3438891087b77c8a677992b9cf09fd684968e61", func := "loop.example/g01369/laws.FnExactPairsLeft", spec := "fnExactPairsLeft", inPlace := ["internal/bytealg.IndexByteString"], unfollowed := true, recurses := true, plainKeys := false, apart := false }
def FnExactPairsLeftSaid : Prop := fnExactPairsLeftRow.holds Try.pinned (OpenSpec.ofChange fnExactPairsLeftSpec)

/-- ITS FALSE NEIGHBOUR: 'it returns false'. Refute it at one input. -/
def fnExactPairsLeftWrong : ChangeSpec := { name := "fnExactPairsLeft", fn := fun _ => fun
  | [d1, d2] => { results := [.lit (.bool false)], args := [d1, d2] }
  | _ => none }
def FnExactPairsLeftWrongFalsely : Prop := fnExactPairsLeftRow.holds Try.pinned (OpenSpec.ofChange fnExactPairsLeftWrong)

/-- 'laws.FnExactNextStatements': WHATEVER THE INPUT: true; the input reads as it did. -/
def fnExactNextStatementsSpec : ChangeSpec := { name := "fnExactNextStatements", fn := fun _ => fun
  | [d1, d2] => { results := [.lit (.bool true)], args := [d1, d2] }
  | _ => none }
def fnExactNextStatementsRow : OpenClaim := { program := "ytlkbphhmahipdaa", sum := "c81c87a71355d9cfa3dbd67da3438891087b77c8a677992b9cf09fd684968e61", func := "loop.example/g01369/laws.FnExactNextStatements", spec := "fnExactNextStatements", inPlace := ["internal/bytealg.IndexByteString"], unfollowed := true, recurses := true, plainKeys := false, apart := false }
def FnExactNextStatementsSaid : Prop := fnExactNextStatementsRow.holds Try.pinned (OpenSpec.ofChange fnExactNextStatementsSpec)

/-- ITS FALSE NEIGHBOUR: 'it returns false'. Refute it at one input. -/
def fnExactNextStatementsWrong : ChangeSpec := { name := "fnExactNextStatements", fn := fun _ => fun
  | [d1, d2] => { results := [.lit (.bool false)], args := [d1, d2] }
  | _ => none }
def FnExactNextStatementsWrongFalsely : Prop := fnExactNextStatementsRow.holds Try.pinned (OpenSpec.ofChange fnExactNextStatementsWrong)

/-- 'laws.FnExactLimitsOf': WHATEVER THE INPUT: true; the input reads as it did. -/
def fnExactLimitsOfSpec : ChangeSpec := { name := "fnExactLimitsOf", fn := fun _ => fun
  | [d1, d2, d3] => { results := [.lit (.bool true)], args := [d1, d2, d3] }
  | _ => none }
def fnExactLimitsOfRow : OpenClaim := { program := "ytlkbphhmahipdaa", sum := "c81c87a71355d9cfa3dbd67da3438891087b77c8a677992b9cf09fd684968e61", func := "loop.example/g01369/laws.FnExactLimitsOf", spec := "fnExactLimitsOf", inPlace := ["internal/bytealg.IndexByteString"], unfollowed := true, recurses := true, plainKeys := false, apart := false }
def FnExactLimitsOfSaid : Prop := fnExactLimitsOfRow.holds Try.pinned (OpenSpec.ofChange fnExactLimitsOfSpec)

/-- ITS FALSE NEIGHBOUR: 'it returns false'. Refute it at one input. -/
def fnExactLimitsOfWrong : ChangeSpec := { name := "fnExactLimitsOf", fn := fun _ => fun
  | [d1, d2, d3] => { results := [.lit (.bool false)], args := [d1, d2, d3] }
  | _ => none }
def FnExactLimitsOfWrongFalsely : Prop := fnExactLimitsOfRow.holds Try.pinned (OpenSpec.ofChange fnExactLimitsOfWrong)

/-- 'laws.FnExactSumsAlone': WHATEVER THE INPUT: true; the input reads as it did. -/
def fnExactSumsAloneSpec : ChangeSpec := { name := "fnExactSumsAlone", fn := fun _ => fun
  | [d1, d2] => { results := [.lit (.bool true)], args := [d1, d2] }
  | _ => none }
def fnExactSumsAloneRow : OpenClaim := { program := "ytlkbphhmahipdaa", sum := "c81c87a71355d9cfa3dbd67da3438891087b77c8a677992b9cf09fd684968e61", func := "loop.example/g01369/laws.FnExactSumsAlone", spec := "fnExactSumsAlone", inPlace := ["internal/bytealg.IndexByteString"], unfollowed := true, recurses := true, plainKeys := false, apart := false }
def FnExactSumsAloneSaid : Prop := fnExactSumsAloneRow.holds Try.pinned (OpenSpec.ofChange fnExactSumsAloneSpec)

/-- ITS FALSE NEIGHBOUR: 'it returns false'. Refute it at one input. -/
def fnExactSumsAloneWrong : ChangeSpec := { name := "fnExactSumsAlone", fn := fun _ => fun
  | [d1, d2] => { results := [.lit (.bool false)], args := [d1, d2] }
  | _ => none }
def FnExactSumsAloneWrongFalsely : Prop := fnExactSumsAloneRow.holds Try.pinned (OpenSpec.ofChange fnExactSumsAloneWrong)

/-- 'laws.FnExactProductsAlone': WHATEVER THE INPUT: true; the input reads as it did. -/
def fnExactProductsAloneSpec : ChangeSpec := { name := "fnExactProductsAlone", fn := fun _ => fun
  | [d1, d2] => { results := [.lit (.bool true)], args := [d1, d2] }
  | _ => none }
def fnExactProductsAloneRow : OpenClaim := { program := "ytlkbphhmahipdaa", sum := "c81c87a71355d9cfa3dbd67da3438891087b77c8a677992b9cf09fd684968e61", func := "loop.example/g01369/laws.FnExactProductsAlone", spec := "fnExactProductsAlone", inPlace := ["internal/bytealg.IndexByteString"], unfollowed := true, recurses := true, plainKeys := false, apart := false }
def FnExactProductsAloneSaid : Prop := fnExactProductsAloneRow.holds Try.pinned (OpenSpec.ofChange fnExactProductsAloneSpec)

/-- ITS FALSE NEIGHBOUR: 'it returns false'. Refute it at one input. -/
def fnExactProductsAloneWrong : ChangeSpec := { name := "fnExactProductsAlone", fn := fun _ => fun
  | [d1, d2] => { results := [.lit (.bool false)], args := [d1, d2] }
  | _ => none }
def FnExactProductsAloneWrongFalsely : Prop := fnExactProductsAloneRow.holds Try.pinned (OpenSpec.ofChange fnExactProductsAloneWrong)

/-- 'laws.FnTalksKnow': WHATEVER THE INPUT: true; the input reads as it did. -/
def fnTalksKnowSpec : ChangeSpec := { name := "fnTalksKnow", fn := fun _ => fun
  | [d1, d2] => { results := [.lit (.bool true)], args := [d1, d2] }
  | _ => none }
def fnTalksKnowRow : OpenClaim := { program := "ytlkbphhmahipdaa", sum := "c81c87a71355d9cfa3dbd67da3438891087b77c8a677992b9cf09fd684968e61", func := "loop.example/g01369/laws.FnTalksKnow", spec := "fnTalksKnow", inPlace := ["internal/bytealg.IndexByteString"], unfollowed := true, recurses := true, plainKeys := false, apart := false }
def FnTalksKnowSaid : Prop := fnTalksKnowRow.holds Try.pinned (OpenSpec.ofChange fnTalksKnowSpec)

/-- ITS FALSE NEIGHBOUR: 'it returns false'. Refute it at one input. -/
def fnTalksKnowWrong : ChangeSpec := { name := "fnTalksKnow", fn := fun _ => fun
  | [d1, d2] => { results := [.lit (.bool false)], args := [d1, d2] }
  | _ => none }
def FnTalksKnowWrongFalsely : Prop := fnTalksKnowRow.holds Try.pinned (OpenSpec.ofChange fnTalksKnowWrong)

/-- 'laws.FnTalksLeave': WHATEVER THE INPUT: true; the input reads as it did. -/
def fnTalksLeaveSpec : ChangeSpec := { name := "fnTalksLeave", fn := fun _ => fun
  | [d1, d2] => { results := [.lit (.bool true)], args := [d1, d2] }
  | _ => none }
def fnTalksLeaveRow : OpenClaim := { program := "ytlkbphhmahipdaa", sum := "c81c87a71355d9cfa3dbd67da3438891087b77c8a677992b9cf09fd684968e61", func := "loop.example/g01369/laws.FnTalksLeave", spec := "fnTalksLeave", inPlace := ["internal/bytealg.IndexByteString"], unfollowed := true, recurses := true, plainKeys := false, apart := false }
def FnTalksLeaveSaid : Prop := fnTalksLeaveRow.holds Try.pinned (OpenSpec.ofChange fnTalksLeaveSpec)

/-- ITS FALSE NEIGHBOUR: 'it returns false'. Refute it at one input. -/
def fnTalksLeaveWrong : ChangeSpec := { name := "fnTalksLeave", fn := fun _ => fun
  | [d1, d2] => { results := [.lit (.bool false)], args := [d1, d2] }
  | _ => none }
def FnTalksLeaveWrongFalsely : Prop := fnTalksLeaveRow.holds Try.pinned (OpenSpec.ofChange fnTalksLeaveWrong)

/- THE SECOND FORM. 'bulk': how many values and letters a reading holds, each counted each time it is reached (what is shared counts as often as it is met; a slice's spare places count too). A statement '..UptoSaid' is the law's where the arguments, and the package variables that the reading takes, are together of bulk at most 1048576: NARROWER than '..Said'. Prove '..Said' where nothing that the law and all that it calls make is longer than what came in: it says more and counts as full. Else prove '..UptoSaid'. A law counts once. -/
mutual
def uptoBulk {H : Type} : DataW H → Nat
  | .lit (.string bytes) => bytes.length + 1
  | .lit _ => 1
  | .nil => 1
  | .ptr d => uptoBulk d + 1
  | .slice elems spare => uptoBulkAll elems + uptoBulkAll spare + 1
  | .agg parts => uptoBulkAll parts + 1
  | .iface _ d => uptoBulk d + 1
  | .map entries => uptoBulkEntries entries + 1
  | .held _ => 1
def uptoBulkAll {H : Type} : List (DataW H) → Nat
  | [] => 0
  | d :: r => uptoBulk d + uptoBulkAll r
def uptoBulkEntries {H : Type} : List (Lit × DataW H) → Nat
  | [] => 0
  | x :: r => uptoBulkEntry x + uptoBulkEntries r
def uptoBulkEntry {H : Type} : Lit × DataW H → Nat
  | (.string bytes, d) => bytes.length + uptoBulk d + 1
  | (_, d) => uptoBulk d + 1
 end
def uptoSmall : (H : Type) → List (DataW H) → Bool := fun _ ds => decide (uptoBulkAll ds ≤ 1048576)
def OpenSpec.upto (s : _root_.Go.ChangeSpec) : _root_.Go.OpenSpec := { _root_.Go.OpenSpec.ofChange s with cond := some uptoSmall }

/-- 'laws.FnExactLeastLimit', WHERE WHAT IT READS IS OF BULK AT MOST 1048576: true; the input reads as it did. -/
def fnExactLeastLimitUptoRow : OpenClaim := { program := "ytlkbphhmahipdaa", sum := "c81c87a71355d9cfa3dbd67da3438891087b77c8a677992b9cf09fd684968e61", func := "loop.example/g01369/laws.FnExactLeastLimit", spec := "fnExactLeastLimit", inPlace := ["internal/bytealg.IndexByteString"], unfollowed := true, recurses := true, plainKeys := false, apart := false, narrowed := true }
def FnExactLeastLimitUptoSaid : Prop := fnExactLeastLimitUptoRow.holds Try.pinned (OpenSpec.upto fnExactLeastLimitSpec)

/-- 'laws.FnExactPairsLeft', WHERE WHAT IT READS IS OF BULK AT MOST 1048576: true; the input reads as it did. -/
def fnExactPairsLeftUptoRow : OpenClaim := { program := "ytlkbphhmahipdaa", sum := "c81c87a71355d9cfa3dbd67da3438891087b77c8a677992b9cf09fd684968e61", func := "loop.example/g01369/laws.FnExactPairsLeft", spec := "fnExactPairsLeft", inPlace := ["internal/bytealg.IndexByteString"], unfollowed := true, recurses := true, plainKeys := false, apart := false, narrowed := true }
def FnExactPairsLeftUptoSaid : Prop := fnExactPairsLeftUptoRow.holds Try.pinned (OpenSpec.upto fnExactPairsLeftSpec)

/-- 'laws.FnExactNextStatements', WHERE WHAT IT READS IS OF BULK AT MOST 1048576: true; the input reads as it did. -/
def fnExactNextStatementsUptoRow : OpenClaim := { program := "ytlkbphhmahipdaa", sum := "c81c87a71355d9cfa3dbd67da3438891087b77c8a677992b9cf09fd684968e61", func := "loop.example/g01369/laws.FnExactNextStatements", spec := "fnExactNextStatements", inPlace := ["internal/bytealg.IndexByteString"], unfollowed := true, recurses := true, plainKeys := false, apart := false, narrowed := true }
def FnExactNextStatementsUptoSaid : Prop := fnExactNextStatementsUptoRow.holds Try.pinned (OpenSpec.upto fnExactNextStatementsSpec)

/-- 'laws.FnExactLimitsOf', WHERE WHAT IT READS IS OF BULK AT MOST 1048576: true; the input reads as it did. -/
def fnExactLimitsOfUptoRow : OpenClaim := { program := "ytlkbphhmahipdaa", sum := "c81c87a71355d9cfa3dbd67da3438891087b77c8a677992b9cf09fd684968e61", func := "loop.example/g01369/laws.FnExactLimitsOf", spec := "fnExactLimitsOf", inPlace := ["internal/bytealg.IndexByteString"], unfollowed := true, recurses := true, plainKeys := false, apart := false, narrowed := true }
def FnExactLimitsOfUptoSaid : Prop := fnExactLimitsOfUptoRow.holds Try.pinned (OpenSpec.upto fnExactLimitsOfSpec)

/-- 'laws.FnExactSumsAlone', WHERE WHAT IT READS IS OF BULK AT MOST 1048576: true; the input reads as it did. -/
def fnExactSumsAloneUptoRow : OpenClaim := { program := "ytlkbphhmahipdaa", sum := "c81c87a71355d9cfa3dbd67da3438891087b77c8a677992b9cf09fd684968e61", func := "loop.example/g01369/laws.FnExactSumsAlone", spec := "fnExactSumsAlone", inPlace := ["internal/bytealg.IndexByteString"], unfollowed := true, recurses := true, plainKeys := false, apart := false, narrowed := true }
def FnExactSumsAloneUptoSaid : Prop := fnExactSumsAloneUptoRow.holds Try.pinned (OpenSpec.upto fnExactSumsAloneSpec)

/-- 'laws.FnExactProductsAlone', WHERE WHAT IT READS IS OF BULK AT MOST 1048576: true; the input reads as it did. -/
def fnExactProductsAloneUptoRow : OpenClaim := { program := "ytlkbphhmahipdaa", sum := "c81c87a71355d9cfa3dbd67da3438891087b77c8a677992b9cf09fd684968e61", func := "loop.example/g01369/laws.FnExactProductsAlone", spec := "fnExactProductsAlone", inPlace := ["internal/bytealg.IndexByteString"], unfollowed := true, recurses := true, plainKeys := false, apart := false, narrowed := true }
def FnExactProductsAloneUptoSaid : Prop := fnExactProductsAloneUptoRow.holds Try.pinned (OpenSpec.upto fnExactProductsAloneSpec)

/-- 'laws.FnTalksKnow', WHERE WHAT IT READS IS OF BULK AT MOST 1048576: true; the input reads as it did. -/
def fnTalksKnowUptoRow : OpenClaim := { program := "ytlkbphhmahipdaa", sum := "c81c87a71355d9cfa3dbd67da3438891087b77c8a677992b9cf09fd684968e61", func := "loop.example/g01369/laws.FnTalksKnow", spec := "fnTalksKnow", inPlace := ["internal/bytealg.IndexByteString"], unfollowed := true, recurses := true, plainKeys := false, apart := false, narrowed := true }
def FnTalksKnowUptoSaid : Prop := fnTalksKnowUptoRow.holds Try.pinned (OpenSpec.upto fnTalksKnowSpec)

/-- 'laws.FnTalksLeave', WHERE WHAT IT READS IS OF BULK AT MOST 1048576: true; the input reads as it did. -/
def fnTalksLeaveUptoRow : OpenClaim := { program := "ytlkbphhmahipdaa", sum := "c81c87a71355d9cfa3dbd67da3438891087b77c8a677992b9cf09fd684968e61", func := "loop.example/g01369/laws.FnTalksLeave", spec := "fnTalksLeave", inPlace := ["internal/bytealg.IndexByteString"], unfollowed := true, recurses := true, plainKeys := false, apart := false, narrowed := true }
def FnTalksLeaveUptoSaid : Prop := fnTalksLeaveUptoRow.holds Try.pinned (OpenSpec.upto fnTalksLeaveSpec)

end Rows
end Go.Proofs.Ytlkbphhmahipdaa
