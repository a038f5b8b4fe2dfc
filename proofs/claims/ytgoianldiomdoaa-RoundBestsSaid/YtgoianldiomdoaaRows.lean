/-
  No cell of these rows narrows 'for every input' (looked for: loops, veiled, ifaces, maps, wideKeys, modest, calm, conditions, laid).
  DERIVED. THE GIVEN ROWS OF THIS SEAT. 12 by the template 'for every input the law returns true; each argument reads behind the call as it read before'; 0 by the template 'total and deterministic' (their statements: YtgoianldiomdoaaTotals.lean).
  GIVEN WITH THE SEED: the statements are not yours to turn. If you find one false, say at which input.
  Laid BY PROGRAM, IN A SANDBOX (cutbox-rows.mjs): the forced cells as the released guide's own fill.sh prints them over the translation a90d652262cd32f0… (all of the seat's roots in one cut). By AI agents, Wed Nov 11 2026. No macro, syntax, notation, axiom, sorry.
-/
import Derived.Test.YtgoianldiomdoaaChecked
import GoSem.Claim
import GoSem.ClaimJoined
import GoSem.ClaimMapViews
import Derived.JoinedTies
import Derived.KernelRfl
namespace Go.Proofs.Ytgoianldiomdoaa
/- THE CELL 'sum', in the pinned program and in every row, IS THE sha256 OF THE DUMP (.gsa) THAT YtgoianldiomdoaaProg.lean LOADS. Nothing in Lean hashes anything: it is a label: what it is worth is what the hold of that sum in a sandbox is worth. -/
noncomputable def Try.pinned : Pinned := { name := "ytgoianldiomdoaa", sum := "a90d652262cd32f03c7344c9e74068fd539f50cc8a578e03a89836ac9912ee4f", checked := Try.checked }
namespace Rows
def none {H : Type} : Left H := { results := [], args := [] }

/-- 'tithinglaw09.RoundBests': WHATEVER THE INPUT: true; the input reads as it did. -/
def roundBestsSpec : ChangeSpec := { name := "roundBests", fn := fun _ => fun
  | [d] => { results := [.lit (.bool true)], args := [d] }
  | _ => none }
def roundBestsRow : OpenClaim := { program := "ytgoianldiomdoaa", sum := "a90d652262cd32f03c7344c9e74068fd539f50cc8a578e03a89836ac9912ee4f", func := "tithing/tithinglaw09.RoundBests", spec := "roundBests", unfollowed := true, recurses := true, plainKeys := false, apart := false }
def RoundBestsSaid : Prop := roundBestsRow.holds Try.pinned (OpenSpec.ofChange roundBestsSpec)

/-- ITS FALSE NEIGHBOUR: 'it returns false'. Refute it at one input. -/
def roundBestsWrong : ChangeSpec := { name := "roundBests", fn := fun _ => fun
  | [d] => { results := [.lit (.bool false)], args := [d] }
  | _ => none }
def RoundBestsWrongFalsely : Prop := roundBestsRow.holds Try.pinned (OpenSpec.ofChange roundBestsWrong)

/-- 'tithinglaw09.RoundLearns': WHATEVER THE INPUT: true; the input reads as it did. -/
def roundLearnsSpec : ChangeSpec := { name := "roundLearns", fn := fun _ => fun
  | [d1, d2] => { results := [.lit (.bool true)], args := [d1, d2] }
  | _ => none }
def roundLearnsRow : OpenClaim := { program := "ytgoianldiomdoaa", sum := "a90d652262cd32f03c7344c9e74068fd539f50cc8a578e03a89836ac9912ee4f", func := "tithing/tithinglaw09.RoundLearns", spec := "roundLearns", unfollowed := true, recurses := true, plainKeys := false, apart := false }
def RoundLearnsSaid : Prop := roundLearnsRow.holds Try.pinned (OpenSpec.ofChange roundLearnsSpec)

/-- ITS FALSE NEIGHBOUR: 'it returns false'. Refute it at one input. -/
def roundLearnsWrong : ChangeSpec := { name := "roundLearns", fn := fun _ => fun
  | [d1, d2] => { results := [.lit (.bool false)], args := [d1, d2] }
  | _ => none }
def RoundLearnsWrongFalsely : Prop := roundLearnsRow.holds Try.pinned (OpenSpec.ofChange roundLearnsWrong)

/-- 'tithinglaw09.RoundDivides': WHATEVER THE INPUT: true; the input reads as it did. -/
def roundDividesSpec : ChangeSpec := { name := "roundDivides", fn := fun _ => fun
  | [d1, d2] => { results := [.lit (.bool true)], args := [d1, d2] }
  | _ => none }
def roundDividesRow : OpenClaim := { program := "ytgoianldiomdoaa", sum := "a90d652262cd32f03c7344c9e74068fd539f50cc8a578e03a89836ac9912ee4f", func := "tithing/tithinglaw09.RoundDivides", spec := "roundDivides", unfollowed := true, recurses := true, plainKeys := false, apart := false }
def RoundDividesSaid : Prop := roundDividesRow.holds Try.pinned (OpenSpec.ofChange roundDividesSpec)

/-- ITS FALSE NEIGHBOUR: 'it returns false'. Refute it at one input. -/
def roundDividesWrong : ChangeSpec := { name := "roundDivides", fn := fun _ => fun
  | [d1, d2] => { results := [.lit (.bool false)], args := [d1, d2] }
  | _ => none }
def RoundDividesWrongFalsely : Prop := roundDividesRow.holds Try.pinned (OpenSpec.ofChange roundDividesWrong)

/-- 'tithinglaw09.RoundFixed': WHATEVER THE INPUT: true; the input reads as it did. -/
def roundFixedSpec : ChangeSpec := { name := "roundFixed", fn := fun _ => fun
  | [d1, d2, d3] => { results := [.lit (.bool true)], args := [d1, d2, d3] }
  | _ => none }
def roundFixedRow : OpenClaim := { program := "ytgoianldiomdoaa", sum := "a90d652262cd32f03c7344c9e74068fd539f50cc8a578e03a89836ac9912ee4f", func := "tithing/tithinglaw09.RoundFixed", spec := "roundFixed", unfollowed := true, recurses := true, plainKeys := false, apart := false }
def RoundFixedSaid : Prop := roundFixedRow.holds Try.pinned (OpenSpec.ofChange roundFixedSpec)

/-- ITS FALSE NEIGHBOUR: 'it returns false'. Refute it at one input. -/
def roundFixedWrong : ChangeSpec := { name := "roundFixed", fn := fun _ => fun
  | [d1, d2, d3] => { results := [.lit (.bool false)], args := [d1, d2, d3] }
  | _ => none }
def RoundFixedWrongFalsely : Prop := roundFixedRow.holds Try.pinned (OpenSpec.ofChange roundFixedWrong)

/-- 'tithinglaw09.RoundKnown': WHATEVER THE INPUT: true; the input reads as it did. -/
def roundKnownSpec : ChangeSpec := { name := "roundKnown", fn := fun _ => fun
  | [d] => { results := [.lit (.bool true)], args := [d] }
  | _ => none }
def roundKnownRow : OpenClaim := { program := "ytgoianldiomdoaa", sum := "a90d652262cd32f03c7344c9e74068fd539f50cc8a578e03a89836ac9912ee4f", func := "tithing/tithinglaw09.RoundKnown", spec := "roundKnown", unfollowed := true, recurses := true, plainKeys := false, apart := false }
def RoundKnownSaid : Prop := roundKnownRow.holds Try.pinned (OpenSpec.ofChange roundKnownSpec)

/-- ITS FALSE NEIGHBOUR: 'it returns false'. Refute it at one input. -/
def roundKnownWrong : ChangeSpec := { name := "roundKnown", fn := fun _ => fun
  | [d] => { results := [.lit (.bool false)], args := [d] }
  | _ => none }
def RoundKnownWrongFalsely : Prop := roundKnownRow.holds Try.pinned (OpenSpec.ofChange roundKnownWrong)

/-- 'tithinglaw09.RoundTurned': WHATEVER THE INPUT: true; the input reads as it did. -/
def roundTurnedSpec : ChangeSpec := { name := "roundTurned", fn := fun _ => fun
  | [d] => { results := [.lit (.bool true)], args := [d] }
  | _ => none }
def roundTurnedRow : OpenClaim := { program := "ytgoianldiomdoaa", sum := "a90d652262cd32f03c7344c9e74068fd539f50cc8a578e03a89836ac9912ee4f", func := "tithing/tithinglaw09.RoundTurned", spec := "roundTurned", unfollowed := true, recurses := true, plainKeys := false, apart := false }
def RoundTurnedSaid : Prop := roundTurnedRow.holds Try.pinned (OpenSpec.ofChange roundTurnedSpec)

/-- ITS FALSE NEIGHBOUR: 'it returns false'. Refute it at one input. -/
def roundTurnedWrong : ChangeSpec := { name := "roundTurned", fn := fun _ => fun
  | [d] => { results := [.lit (.bool false)], args := [d] }
  | _ => none }
def RoundTurnedWrongFalsely : Prop := roundTurnedRow.holds Try.pinned (OpenSpec.ofChange roundTurnedWrong)

/-- 'tithinglaw09.RoundShares': WHATEVER THE INPUT: true; the input reads as it did. -/
def roundSharesSpec : ChangeSpec := { name := "roundShares", fn := fun _ => fun
  | [d1, d2, d3] => { results := [.lit (.bool true)], args := [d1, d2, d3] }
  | _ => none }
def roundSharesRow : OpenClaim := { program := "ytgoianldiomdoaa", sum := "a90d652262cd32f03c7344c9e74068fd539f50cc8a578e03a89836ac9912ee4f", func := "tithing/tithinglaw09.RoundShares", spec := "roundShares", unfollowed := true, recurses := true, plainKeys := false, apart := false }
def RoundSharesSaid : Prop := roundSharesRow.holds Try.pinned (OpenSpec.ofChange roundSharesSpec)

/-- ITS FALSE NEIGHBOUR: 'it returns false'. Refute it at one input. -/
def roundSharesWrong : ChangeSpec := { name := "roundShares", fn := fun _ => fun
  | [d1, d2, d3] => { results := [.lit (.bool false)], args := [d1, d2, d3] }
  | _ => none }
def RoundSharesWrongFalsely : Prop := roundSharesRow.holds Try.pinned (OpenSpec.ofChange roundSharesWrong)

/-- 'tithinglaw09.RoundExact': WHATEVER THE INPUT: true; the input reads as it did. -/
def roundExactSpec : ChangeSpec := { name := "roundExact", fn := fun _ => fun
  | [d] => { results := [.lit (.bool true)], args := [d] }
  | _ => none }
def roundExactRow : OpenClaim := { program := "ytgoianldiomdoaa", sum := "a90d652262cd32f03c7344c9e74068fd539f50cc8a578e03a89836ac9912ee4f", func := "tithing/tithinglaw09.RoundExact", spec := "roundExact", unfollowed := true, recurses := true, plainKeys := false, apart := false }
def RoundExactSaid : Prop := roundExactRow.holds Try.pinned (OpenSpec.ofChange roundExactSpec)

/-- ITS FALSE NEIGHBOUR: 'it returns false'. Refute it at one input. -/
def roundExactWrong : ChangeSpec := { name := "roundExact", fn := fun _ => fun
  | [d] => { results := [.lit (.bool false)], args := [d] }
  | _ => none }
def RoundExactWrongFalsely : Prop := roundExactRow.holds Try.pinned (OpenSpec.ofChange roundExactWrong)

/-- 'tithinglaw09.RoundAdds': WHATEVER THE INPUT: true; the input reads as it did. -/
def roundAddsSpec : ChangeSpec := { name := "roundAdds", fn := fun _ => fun
  | [d] => { results := [.lit (.bool true)], args := [d] }
  | _ => none }
def roundAddsRow : OpenClaim := { program := "ytgoianldiomdoaa", sum := "a90d652262cd32f03c7344c9e74068fd539f50cc8a578e03a89836ac9912ee4f", func := "tithing/tithinglaw09.RoundAdds", spec := "roundAdds", unfollowed := true, recurses := true, plainKeys := false, apart := false }
def RoundAddsSaid : Prop := roundAddsRow.holds Try.pinned (OpenSpec.ofChange roundAddsSpec)

/-- ITS FALSE NEIGHBOUR: 'it returns false'. Refute it at one input. -/
def roundAddsWrong : ChangeSpec := { name := "roundAdds", fn := fun _ => fun
  | [d] => { results := [.lit (.bool false)], args := [d] }
  | _ => none }
def RoundAddsWrongFalsely : Prop := roundAddsRow.holds Try.pinned (OpenSpec.ofChange roundAddsWrong)

/-- 'tithinglaw09.RoundAll': WHATEVER THE INPUT: true; the input reads as it did. -/
def roundAllSpec : ChangeSpec := { name := "roundAll", fn := fun _ => fun
  | [d1, d2] => { results := [.lit (.bool true)], args := [d1, d2] }
  | _ => none }
def roundAllRow : OpenClaim := { program := "ytgoianldiomdoaa", sum := "a90d652262cd32f03c7344c9e74068fd539f50cc8a578e03a89836ac9912ee4f", func := "tithing/tithinglaw09.RoundAll", spec := "roundAll", unfollowed := true, recurses := true, plainKeys := false, apart := false }
def RoundAllSaid : Prop := roundAllRow.holds Try.pinned (OpenSpec.ofChange roundAllSpec)

/-- ITS FALSE NEIGHBOUR: 'it returns false'. Refute it at one input. -/
def roundAllWrong : ChangeSpec := { name := "roundAll", fn := fun _ => fun
  | [d1, d2] => { results := [.lit (.bool false)], args := [d1, d2] }
  | _ => none }
def RoundAllWrongFalsely : Prop := roundAllRow.holds Try.pinned (OpenSpec.ofChange roundAllWrong)

/-- 'tithinglaw09.RoundChanges': WHATEVER THE INPUT: true; the input reads as it did. -/
def roundChangesSpec : ChangeSpec := { name := "roundChanges", fn := fun _ => fun
  | [d1, d2, d3] => { results := [.lit (.bool true)], args := [d1, d2, d3] }
  | _ => none }
def roundChangesRow : OpenClaim := { program := "ytgoianldiomdoaa", sum := "a90d652262cd32f03c7344c9e74068fd539f50cc8a578e03a89836ac9912ee4f", func := "tithing/tithinglaw09.RoundChanges", spec := "roundChanges", unfollowed := true, recurses := true, plainKeys := false, apart := false }
def RoundChangesSaid : Prop := roundChangesRow.holds Try.pinned (OpenSpec.ofChange roundChangesSpec)

/-- ITS FALSE NEIGHBOUR: 'it returns false'. Refute it at one input. -/
def roundChangesWrong : ChangeSpec := { name := "roundChanges", fn := fun _ => fun
  | [d1, d2, d3] => { results := [.lit (.bool false)], args := [d1, d2, d3] }
  | _ => none }
def RoundChangesWrongFalsely : Prop := roundChangesRow.holds Try.pinned (OpenSpec.ofChange roundChangesWrong)

/-- 'tithinglaw09.RoundLeast': WHATEVER THE INPUT: true; the input reads as it did. -/
def roundLeastSpec : ChangeSpec := { name := "roundLeast", fn := fun _ => fun
  | [d1, d2] => { results := [.lit (.bool true)], args := [d1, d2] }
  | _ => none }
def roundLeastRow : OpenClaim := { program := "ytgoianldiomdoaa", sum := "a90d652262cd32f03c7344c9e74068fd539f50cc8a578e03a89836ac9912ee4f", func := "tithing/tithinglaw09.RoundLeast", spec := "roundLeast", unfollowed := true, recurses := true, plainKeys := false, apart := false }
def RoundLeastSaid : Prop := roundLeastRow.holds Try.pinned (OpenSpec.ofChange roundLeastSpec)

/-- ITS FALSE NEIGHBOUR: 'it returns false'. Refute it at one input. -/
def roundLeastWrong : ChangeSpec := { name := "roundLeast", fn := fun _ => fun
  | [d1, d2] => { results := [.lit (.bool false)], args := [d1, d2] }
  | _ => none }
def RoundLeastWrongFalsely : Prop := roundLeastRow.holds Try.pinned (OpenSpec.ofChange roundLeastWrong)

/- THE SECOND FORM. 'bulk': how many values and letters a reading holds, each counted each time it is reached (what is shared counts as often as it is met; a slice's spare places count too). A statement '..UptoSaid' is the law's where the arguments, and the package variables that the reading takes, are together of bulk at most 1048576: NARROWER than '..Said'. Prove '..Said' where nothing that the law and all that it calls make is longer than what came in: it says more and counts as full. Else prove '..UptoSaid'. A law counts once. -/
mutual
def uptoBulk {H : Type} : DataW H → Nat
  | .lit (.string bytes) => bytes.length + 1
  | .lit _ => 1
  | .nil => 1
  | .ptr d => uptoBulk d + 1
  | .slice elems spare => uptoBulkAll elems + uptoBulkAll spare + 1
  | .agg parts => uptoBulkAll parts + 1
  | .iface _ d => uptoBulk d + 1
  | .map entries => uptoBulkEntries entries + 1
  | .held _ => 1
def uptoBulkAll {H : Type} : List (DataW H) → Nat
  | [] => 0
  | d :: r => uptoBulk d + uptoBulkAll r
def uptoBulkEntries {H : Type} : List (Lit × DataW H) → Nat
  | [] => 0
  | x :: r => uptoBulkEntry x + uptoBulkEntries r
def uptoBulkEntry {H : Type} : Lit × DataW H → Nat
  | (.string bytes, d) => bytes.length + uptoBulk d + 1
  | (_, d) => uptoBulk d + 1
 end
def uptoSmall : (H : Type) → List (DataW H) → Bool := fun _ ds => decide (uptoBulkAll ds ≤ 1048576)
def OpenSpec.upto (s : _root_.Go.ChangeSpec) : _root_.Go.OpenSpec := { _root_.Go.OpenSpec.ofChange s with cond := some uptoSmall }

/-- 'tithinglaw09.RoundBests', WHERE WHAT IT READS IS OF BULK AT MOST 1048576: true; the input reads as it did. -/
def roundBestsUptoRow : OpenClaim := { program := "ytgoianldiomdoaa", sum := "a90d652262cd32f03c7344c9e74068fd539f50cc8a578e03a89836ac9912ee4f", func := "tithing/tithinglaw09.RoundBests", spec := "roundBests", unfollowed := true, recurses := true, plainKeys := false, apart := false, narrowed := true }
def RoundBestsUptoSaid : Prop := roundBestsUptoRow.holds Try.pinned (OpenSpec.upto roundBestsSpec)

/-- 'tithinglaw09.RoundLearns', WHERE WHAT IT READS IS OF BULK AT MOST 1048576: true; the input reads as it did. -/
def roundLearnsUptoRow : OpenClaim := { program := "ytgoianldiomdoaa", sum := "a90d652262cd32f03c7344c9e74068fd539f50cc8a578e03a89836ac9912ee4f", func := "tithing/tithinglaw09.RoundLearns", spec := "roundLearns", unfollowed := true, recurses := true, plainKeys := false, apart := false, narrowed := true }
def RoundLearnsUptoSaid : Prop := roundLearnsUptoRow.holds Try.pinned (OpenSpec.upto roundLearnsSpec)

/-- 'tithinglaw09.RoundDivides', WHERE WHAT IT READS IS OF BULK AT MOST 1048576: true; the input reads as it did. -/
def roundDividesUptoRow : OpenClaim := { program := "ytgoianldiomdoaa", sum := "a90d652262cd32f03c7344c9e74068fd539f50cc8a578e03a89836ac9912ee4f", func := "tithing/tithinglaw09.RoundDivides", spec := "roundDivides", unfollowed := true, recurses := true, plainKeys := false, apart := false, narrowed := true }
def RoundDividesUptoSaid : Prop := roundDividesUptoRow.holds Try.pinned (OpenSpec.upto roundDividesSpec)

/-- 'tithinglaw09.RoundFixed', WHERE WHAT IT READS IS OF BULK AT MOST 1048576: true; the input reads as it did. -/
def roundFixedUptoRow : OpenClaim := { program := "ytgoianldiomdoaa", sum := "a90d652262cd32f03c7344c9e74068fd539f50cc8a578e03a89836ac9912ee4f", func := "tithing/tithinglaw09.RoundFixed", spec := "roundFixed", unfollowed := true, recurses := true, plainKeys := false, apart := false, narrowed := true }
def RoundFixedUptoSaid : Prop := roundFixedUptoRow.holds Try.pinned (OpenSpec.upto roundFixedSpec)

/-- 'tithinglaw09.RoundKnown', WHERE WHAT IT READS IS OF BULK AT MOST 1048576: true; the input reads as it did. -/
def roundKnownUptoRow : OpenClaim := { program := "ytgoianldiomdoaa", sum := "a90d652262cd32f03c7344c9e74068fd539f50cc8a578e03a89836ac9912ee4f", func := "tithing/tithinglaw09.RoundKnown", spec := "roundKnown", unfollowed := true, recurses := true, plainKeys := false, apart := false, narrowed := true }
def RoundKnownUptoSaid : Prop := roundKnownUptoRow.holds Try.pinned (OpenSpec.upto roundKnownSpec)

/-- 'tithinglaw09.RoundTurned', WHERE WHAT IT READS IS OF BULK AT MOST 1048576: true; the input reads as it did. -/
def roundTurnedUptoRow : OpenClaim := { program := "ytgoianldiomdoaa", sum := "a90d652262cd32f03c7344c9e74068fd539f50cc8a578e03a89836ac9912ee4f", func := "tithing/tithinglaw09.RoundTurned", spec := "roundTurned", unfollowed := true, recurses := true, plainKeys := false, apart := false, narrowed := true }
def RoundTurnedUptoSaid : Prop := roundTurnedUptoRow.holds Try.pinned (OpenSpec.upto roundTurnedSpec)

/-- 'tithinglaw09.RoundShares', WHERE WHAT IT READS IS OF BULK AT MOST 1048576: true; the input reads as it did. -/
def roundSharesUptoRow : OpenClaim := { program := "ytgoianldiomdoaa", sum := "a90d652262cd32f03c7344c9e74068fd539f50cc8a578e03a89836ac9912ee4f", func := "tithing/tithinglaw09.RoundShares", spec := "roundShares", unfollowed := true, recurses := true, plainKeys := false, apart := false, narrowed := true }
def RoundSharesUptoSaid : Prop := roundSharesUptoRow.holds Try.pinned (OpenSpec.upto roundSharesSpec)

/-- 'tithinglaw09.RoundExact', WHERE WHAT IT READS IS OF BULK AT MOST 1048576: true; the input reads as it did. -/
def roundExactUptoRow : OpenClaim := { program := "ytgoianldiomdoaa", sum := "a90d652262cd32f03c7344c9e74068fd539f50cc8a578e03a89836ac9912ee4f", func := "tithing/tithinglaw09.RoundExact", spec := "roundExact", unfollowed := true, recurses := true, plainKeys := false, apart := false, narrowed := true }
def RoundExactUptoSaid : Prop := roundExactUptoRow.holds Try.pinned (OpenSpec.upto roundExactSpec)

/-- 'tithinglaw09.RoundAdds', WHERE WHAT IT READS IS OF BULK AT MOST 1048576: true; the input reads as it did. -/
def roundAddsUptoRow : OpenClaim := { program := "ytgoianldiomdoaa", sum := "a90d652262cd32f03c7344c9e74068fd539f50cc8a578e03a89836ac9912ee4f", func := "tithing/tithinglaw09.RoundAdds", spec := "roundAdds", unfollowed := true, recurses := true, plainKeys := false, apart := false, narrowed := true }
def RoundAddsUptoSaid : Prop := roundAddsUptoRow.holds Try.pinned (OpenSpec.upto roundAddsSpec)

/-- 'tithinglaw09.RoundAll', WHERE WHAT IT READS IS OF BULK AT MOST 1048576: true; the input reads as it did. -/
def roundAllUptoRow : OpenClaim := { program := "ytgoianldiomdoaa", sum := "a90d652262cd32f03c7344c9e74068fd539f50cc8a578e03a89836ac9912ee4f", func := "tithing/tithinglaw09.RoundAll", spec := "roundAll", unfollowed := true, recurses := true, plainKeys := false, apart := false, narrowed := true }
def RoundAllUptoSaid : Prop := roundAllUptoRow.holds Try.pinned (OpenSpec.upto roundAllSpec)

/-- 'tithinglaw09.RoundChanges', WHERE WHAT IT READS IS OF BULK AT MOST 1048576: true; the input reads as it did. -/
def roundChangesUptoRow : OpenClaim := { program := "ytgoianldiomdoaa", sum := "a90d652262cd32f03c7344c9e74068fd539f50cc8a578e03a89836ac9912ee4f", func := "tithing/tithinglaw09.RoundChanges", spec := "roundChanges", unfollowed := true, recurses := true, plainKeys := false, apart := false, narrowed := true }
def RoundChangesUptoSaid : Prop := roundChangesUptoRow.holds Try.pinned (OpenSpec.upto roundChangesSpec)

/-- 'tithinglaw09.RoundLeast', WHERE WHAT IT READS IS OF BULK AT MOST 1048576: true; the input reads as it did. -/
def roundLeastUptoRow : OpenClaim := { program := "ytgoianldiomdoaa", sum := "a90d652262cd32f03c7344c9e74068fd539f50cc8a578e03a89836ac9912ee4f", func := "tithing/tithinglaw09.RoundLeast", spec := "roundLeast", unfollowed := true, recurses := true, plainKeys := false, apart := false, narrowed := true }
def RoundLeastUptoSaid : Prop := roundLeastUptoRow.holds Try.pinned (OpenSpec.upto roundLeastSpec)

end Rows
end Go.Proofs.Ytgoianldiomdoaa
