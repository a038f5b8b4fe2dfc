/-
  No cell of these rows narrows 'for every input' (looked for: loops, veiled, ifaces, maps, wideKeys, modest, calm, conditions, laid).
  DERIVED. THE GIVEN ROWS OF THIS SEAT. 13 by the template 'for every input the law returns true; each argument reads behind the call as it read before'; 0 by the template 'total and deterministic' (their statements: YtoeabajigfdkaaaTotals.lean).
  GIVEN WITH THE SEED: the statements are not yours to turn. If you find one false, say at which input.
  Laid BY PROGRAM, IN A SANDBOX (cutbox-rows.mjs): the forced cells as the released guide's own fill.sh prints them over the translation 25b5bcc2574dd868… (all of the seat's roots in one cut). By AI agents, Wed Nov 11 2026. No macro, syntax, notation, axiom, sorry.
-/
import Derived.Test.YtoeabajigfdkaaaChecked
import GoSem.Claim
import GoSem.ClaimJoined
import GoSem.ClaimMapViews
import Derived.JoinedTies
import Derived.KernelRfl
namespace Go.Proofs.Ytoeabajigfdkaaa
/- THE CELL 'sum', in the pinned program and in every row, IS THE sha256 OF THE DUMP (.gsa) THAT YtoeabajigfdkaaaProg.lean LOADS. Nothing in Lean hashes anything: it is a label: what it is worth is what the hold of that sum in a sandbox is worth. -/
noncomputable def Try.pinned : Pinned := { name := "ytoeabajigfdkaaa", sum := "25b5bcc2574dd86852949049ffcf50e1905a416923c57201a4a15d4728530406", checked := Try.checked }
namespace Rows
def none {H : Type} : Left H := { results := [], args := [] }

/-- 'tithinglaw11.BorderCarries': WHATEVER THE INPUT: true; the input reads as it did. -/
def borderCarriesSpec : ChangeSpec := { name := "borderCarries", fn := fun _ => fun
  | [d] => { results := [.lit (.bool true)], args := [d] }
  | _ => none }
def borderCarriesRow : OpenClaim := { program := "ytoeabajigfdkaaa", sum := "25b5bcc2574dd86852949049ffcf50e1905a416923c57201a4a15d4728530406", func := "tithing/tithinglaw11.BorderCarries", spec := "borderCarries", unfollowed := true, recurses := true, plainKeys := false, apart := false }
def BorderCarriesSaid : Prop := borderCarriesRow.holds Try.pinned (OpenSpec.ofChange borderCarriesSpec)

/-- ITS FALSE NEIGHBOUR: 'it returns false'. Refute it at one input. -/
def borderCarriesWrong : ChangeSpec := { name := "borderCarries", fn := fun _ => fun
  | [d] => { results := [.lit (.bool false)], args := [d] }
  | _ => none }
def BorderCarriesWrongFalsely : Prop := borderCarriesRow.holds Try.pinned (OpenSpec.ofChange borderCarriesWrong)

/-- 'tithinglaw11.BorderSame': WHATEVER THE INPUT: true; the input reads as it did. -/
def borderSameSpec : ChangeSpec := { name := "borderSame", fn := fun _ => fun
  | [d] => { results := [.lit (.bool true)], args := [d] }
  | _ => none }
def borderSameRow : OpenClaim := { program := "ytoeabajigfdkaaa", sum := "25b5bcc2574dd86852949049ffcf50e1905a416923c57201a4a15d4728530406", func := "tithing/tithinglaw11.BorderSame", spec := "borderSame", unfollowed := true, recurses := true, plainKeys := false, apart := false }
def BorderSameSaid : Prop := borderSameRow.holds Try.pinned (OpenSpec.ofChange borderSameSpec)

/-- ITS FALSE NEIGHBOUR: 'it returns false'. Refute it at one input. -/
def borderSameWrong : ChangeSpec := { name := "borderSame", fn := fun _ => fun
  | [d] => { results := [.lit (.bool false)], args := [d] }
  | _ => none }
def BorderSameWrongFalsely : Prop := borderSameRow.holds Try.pinned (OpenSpec.ofChange borderSameWrong)

/-- 'tithinglaw11.BorderMerged': WHATEVER THE INPUT: true; the input reads as it did. -/
def borderMergedSpec : ChangeSpec := { name := "borderMerged", fn := fun _ => fun
  | [d1, d2] => { results := [.lit (.bool true)], args := [d1, d2] }
  | _ => none }
def borderMergedRow : OpenClaim := { program := "ytoeabajigfdkaaa", sum := "25b5bcc2574dd86852949049ffcf50e1905a416923c57201a4a15d4728530406", func := "tithing/tithinglaw11.BorderMerged", spec := "borderMerged", unfollowed := true, recurses := true, plainKeys := false, apart := false }
def BorderMergedSaid : Prop := borderMergedRow.holds Try.pinned (OpenSpec.ofChange borderMergedSpec)

/-- ITS FALSE NEIGHBOUR: 'it returns false'. Refute it at one input. -/
def borderMergedWrong : ChangeSpec := { name := "borderMerged", fn := fun _ => fun
  | [d1, d2] => { results := [.lit (.bool false)], args := [d1, d2] }
  | _ => none }
def BorderMergedWrongFalsely : Prop := borderMergedRow.holds Try.pinned (OpenSpec.ofChange borderMergedWrong)

/-- 'tithinglaw11.BorderWider': WHATEVER THE INPUT: true; the input reads as it did. -/
def borderWiderSpec : ChangeSpec := { name := "borderWider", fn := fun _ => fun
  | [d1, d2, d3, d4, d5] => { results := [.lit (.bool true)], args := [d1, d2, d3, d4, d5] }
  | _ => none }
def borderWiderRow : OpenClaim := { program := "ytoeabajigfdkaaa", sum := "25b5bcc2574dd86852949049ffcf50e1905a416923c57201a4a15d4728530406", func := "tithing/tithinglaw11.BorderWider", spec := "borderWider", unfollowed := true, recurses := true, plainKeys := false, apart := false }
def BorderWiderSaid : Prop := borderWiderRow.holds Try.pinned (OpenSpec.ofChange borderWiderSpec)

/-- ITS FALSE NEIGHBOUR: 'it returns false'. Refute it at one input. -/
def borderWiderWrong : ChangeSpec := { name := "borderWider", fn := fun _ => fun
  | [d1, d2, d3, d4, d5] => { results := [.lit (.bool false)], args := [d1, d2, d3, d4, d5] }
  | _ => none }
def BorderWiderWrongFalsely : Prop := borderWiderRow.holds Try.pinned (OpenSpec.ofChange borderWiderWrong)

/-- 'tithinglaw11.BorderScaled': WHATEVER THE INPUT: true; the input reads as it did. -/
def borderScaledSpec : ChangeSpec := { name := "borderScaled", fn := fun _ => fun
  | [d1, d2] => { results := [.lit (.bool true)], args := [d1, d2] }
  | _ => none }
def borderScaledRow : OpenClaim := { program := "ytoeabajigfdkaaa", sum := "25b5bcc2574dd86852949049ffcf50e1905a416923c57201a4a15d4728530406", func := "tithing/tithinglaw11.BorderScaled", spec := "borderScaled", unfollowed := true, recurses := true, plainKeys := false, apart := false }
def BorderScaledSaid : Prop := borderScaledRow.holds Try.pinned (OpenSpec.ofChange borderScaledSpec)

/-- ITS FALSE NEIGHBOUR: 'it returns false'. Refute it at one input. -/
def borderScaledWrong : ChangeSpec := { name := "borderScaled", fn := fun _ => fun
  | [d1, d2] => { results := [.lit (.bool false)], args := [d1, d2] }
  | _ => none }
def BorderScaledWrongFalsely : Prop := borderScaledRow.holds Try.pinned (OpenSpec.ofChange borderScaledWrong)

/-- 'tithinglaw11.BorderOffs': WHATEVER THE INPUT: true; the input reads as it did. -/
def borderOffsSpec : ChangeSpec := { name := "borderOffs", fn := fun _ => fun
  | [d] => { results := [.lit (.bool true)], args := [d] }
  | _ => none }
def borderOffsRow : OpenClaim := { program := "ytoeabajigfdkaaa", sum := "25b5bcc2574dd86852949049ffcf50e1905a416923c57201a4a15d4728530406", func := "tithing/tithinglaw11.BorderOffs", spec := "borderOffs", unfollowed := true, recurses := true, plainKeys := false, apart := false }
def BorderOffsSaid : Prop := borderOffsRow.holds Try.pinned (OpenSpec.ofChange borderOffsSpec)

/-- ITS FALSE NEIGHBOUR: 'it returns false'. Refute it at one input. -/
def borderOffsWrong : ChangeSpec := { name := "borderOffs", fn := fun _ => fun
  | [d] => { results := [.lit (.bool false)], args := [d] }
  | _ => none }
def BorderOffsWrongFalsely : Prop := borderOffsRow.holds Try.pinned (OpenSpec.ofChange borderOffsWrong)

/-- 'tithinglaw11.BorderJoined': WHATEVER THE INPUT: true; the input reads as it did. -/
def borderJoinedSpec : ChangeSpec := { name := "borderJoined", fn := fun _ => fun
  | [d1, d2, d3, d4] => { results := [.lit (.bool true)], args := [d1, d2, d3, d4] }
  | _ => none }
def borderJoinedRow : OpenClaim := { program := "ytoeabajigfdkaaa", sum := "25b5bcc2574dd86852949049ffcf50e1905a416923c57201a4a15d4728530406", func := "tithing/tithinglaw11.BorderJoined", spec := "borderJoined", unfollowed := true, recurses := true, plainKeys := false, apart := false }
def BorderJoinedSaid : Prop := borderJoinedRow.holds Try.pinned (OpenSpec.ofChange borderJoinedSpec)

/-- ITS FALSE NEIGHBOUR: 'it returns false'. Refute it at one input. -/
def borderJoinedWrong : ChangeSpec := { name := "borderJoined", fn := fun _ => fun
  | [d1, d2, d3, d4] => { results := [.lit (.bool false)], args := [d1, d2, d3, d4] }
  | _ => none }
def BorderJoinedWrongFalsely : Prop := borderJoinedRow.holds Try.pinned (OpenSpec.ofChange borderJoinedWrong)

/-- 'tithinglaw11.BorderBests': WHATEVER THE INPUT: true; the input reads as it did. -/
def borderBestsSpec : ChangeSpec := { name := "borderBests", fn := fun _ => fun
  | [d1, d2, d3, d4] => { results := [.lit (.bool true)], args := [d1, d2, d3, d4] }
  | _ => none }
def borderBestsRow : OpenClaim := { program := "ytoeabajigfdkaaa", sum := "25b5bcc2574dd86852949049ffcf50e1905a416923c57201a4a15d4728530406", func := "tithing/tithinglaw11.BorderBests", spec := "borderBests", unfollowed := true, recurses := true, plainKeys := false, apart := false }
def BorderBestsSaid : Prop := borderBestsRow.holds Try.pinned (OpenSpec.ofChange borderBestsSpec)

/-- ITS FALSE NEIGHBOUR: 'it returns false'. Refute it at one input. -/
def borderBestsWrong : ChangeSpec := { name := "borderBests", fn := fun _ => fun
  | [d1, d2, d3, d4] => { results := [.lit (.bool false)], args := [d1, d2, d3, d4] }
  | _ => none }
def BorderBestsWrongFalsely : Prop := borderBestsRow.holds Try.pinned (OpenSpec.ofChange borderBestsWrong)

/-- 'tithinglaw11.BorderRight': WHATEVER THE INPUT: true; the input reads as it did. -/
def borderRightSpec : ChangeSpec := { name := "borderRight", fn := fun _ => fun
  | [d1, d2, d3, d4] => { results := [.lit (.bool true)], args := [d1, d2, d3, d4] }
  | _ => none }
def borderRightRow : OpenClaim := { program := "ytoeabajigfdkaaa", sum := "25b5bcc2574dd86852949049ffcf50e1905a416923c57201a4a15d4728530406", func := "tithing/tithinglaw11.BorderRight", spec := "borderRight", unfollowed := true, recurses := true, plainKeys := false, apart := false }
def BorderRightSaid : Prop := borderRightRow.holds Try.pinned (OpenSpec.ofChange borderRightSpec)

/-- ITS FALSE NEIGHBOUR: 'it returns false'. Refute it at one input. -/
def borderRightWrong : ChangeSpec := { name := "borderRight", fn := fun _ => fun
  | [d1, d2, d3, d4] => { results := [.lit (.bool false)], args := [d1, d2, d3, d4] }
  | _ => none }
def BorderRightWrongFalsely : Prop := borderRightRow.holds Try.pinned (OpenSpec.ofChange borderRightWrong)

/-- 'tithinglaw11.BorderBounds': WHATEVER THE INPUT: true; the input reads as it did. -/
def borderBoundsSpec : ChangeSpec := { name := "borderBounds", fn := fun _ => fun
  | [d1, d2] => { results := [.lit (.bool true)], args := [d1, d2] }
  | _ => none }
def borderBoundsRow : OpenClaim := { program := "ytoeabajigfdkaaa", sum := "25b5bcc2574dd86852949049ffcf50e1905a416923c57201a4a15d4728530406", func := "tithing/tithinglaw11.BorderBounds", spec := "borderBounds", unfollowed := true, recurses := true, plainKeys := false, apart := false }
def BorderBoundsSaid : Prop := borderBoundsRow.holds Try.pinned (OpenSpec.ofChange borderBoundsSpec)

/-- ITS FALSE NEIGHBOUR: 'it returns false'. Refute it at one input. -/
def borderBoundsWrong : ChangeSpec := { name := "borderBounds", fn := fun _ => fun
  | [d1, d2] => { results := [.lit (.bool false)], args := [d1, d2] }
  | _ => none }
def BorderBoundsWrongFalsely : Prop := borderBoundsRow.holds Try.pinned (OpenSpec.ofChange borderBoundsWrong)

/-- 'tithinglaw11.BorderTruth': WHATEVER THE INPUT: true; the input reads as it did. -/
def borderTruthSpec : ChangeSpec := { name := "borderTruth", fn := fun _ => fun
  | [d1, d2] => { results := [.lit (.bool true)], args := [d1, d2] }
  | _ => none }
def borderTruthRow : OpenClaim := { program := "ytoeabajigfdkaaa", sum := "25b5bcc2574dd86852949049ffcf50e1905a416923c57201a4a15d4728530406", func := "tithing/tithinglaw11.BorderTruth", spec := "borderTruth", unfollowed := true, recurses := true, plainKeys := false, apart := false }
def BorderTruthSaid : Prop := borderTruthRow.holds Try.pinned (OpenSpec.ofChange borderTruthSpec)

/-- ITS FALSE NEIGHBOUR: 'it returns false'. Refute it at one input. -/
def borderTruthWrong : ChangeSpec := { name := "borderTruth", fn := fun _ => fun
  | [d1, d2] => { results := [.lit (.bool false)], args := [d1, d2] }
  | _ => none }
def BorderTruthWrongFalsely : Prop := borderTruthRow.holds Try.pinned (OpenSpec.ofChange borderTruthWrong)

/-- 'tithinglaw11.BorderEnds': WHATEVER THE INPUT: true; the input reads as it did. -/
def borderEndsSpec : ChangeSpec := { name := "borderEnds", fn := fun _ => fun
  | [d1, d2, d3] => { results := [.lit (.bool true)], args := [d1, d2, d3] }
  | _ => none }
def borderEndsRow : OpenClaim := { program := "ytoeabajigfdkaaa", sum := "25b5bcc2574dd86852949049ffcf50e1905a416923c57201a4a15d4728530406", func := "tithing/tithinglaw11.BorderEnds", spec := "borderEnds", unfollowed := true, recurses := true, plainKeys := false, apart := false }
def BorderEndsSaid : Prop := borderEndsRow.holds Try.pinned (OpenSpec.ofChange borderEndsSpec)

/-- ITS FALSE NEIGHBOUR: 'it returns false'. Refute it at one input. -/
def borderEndsWrong : ChangeSpec := { name := "borderEnds", fn := fun _ => fun
  | [d1, d2, d3] => { results := [.lit (.bool false)], args := [d1, d2, d3] }
  | _ => none }
def BorderEndsWrongFalsely : Prop := borderEndsRow.holds Try.pinned (OpenSpec.ofChange borderEndsWrong)

/-- 'tithinglaw11.BorderNames': WHATEVER THE INPUT: true; the input reads as it did. -/
def borderNamesSpec : ChangeSpec := { name := "borderNames", fn := fun _ => fun
  | [] => { results := [.lit (.bool true)], args := [] }
  | _ => none }
def borderNamesRow : OpenClaim := { program := "ytoeabajigfdkaaa", sum := "25b5bcc2574dd86852949049ffcf50e1905a416923c57201a4a15d4728530406", func := "tithing/tithinglaw11.BorderNames", spec := "borderNames", unfollowed := true, recurses := true, plainKeys := false, apart := false }
def BorderNamesSaid : Prop := borderNamesRow.holds Try.pinned (OpenSpec.ofChange borderNamesSpec)

/-- ITS FALSE NEIGHBOUR: 'it returns false'. Refute it at one input. -/
def borderNamesWrong : ChangeSpec := { name := "borderNames", fn := fun _ => fun
  | [] => { results := [.lit (.bool false)], args := [] }
  | _ => none }
def BorderNamesWrongFalsely : Prop := borderNamesRow.holds Try.pinned (OpenSpec.ofChange borderNamesWrong)

/- THE SECOND FORM. 'bulk': how many values and letters a reading holds, each counted each time it is reached (what is shared counts as often as it is met; a slice's spare places count too). A statement '..UptoSaid' is the law's where the arguments, and the package variables that the reading takes, are together of bulk at most 1048576: NARROWER than '..Said'. Prove '..Said' where nothing that the law and all that it calls make is longer than what came in: it says more and counts as full. Else prove '..UptoSaid'. A law counts once. -/
mutual
def uptoBulk {H : Type} : DataW H → Nat
  | .lit (.string bytes) => bytes.length + 1
  | .lit _ => 1
  | .nil => 1
  | .ptr d => uptoBulk d + 1
  | .slice elems spare => uptoBulkAll elems + uptoBulkAll spare + 1
  | .agg parts => uptoBulkAll parts + 1
  | .iface _ d => uptoBulk d + 1
  | .map entries => uptoBulkEntries entries + 1
  | .held _ => 1
def uptoBulkAll {H : Type} : List (DataW H) → Nat
  | [] => 0
  | d :: r => uptoBulk d + uptoBulkAll r
def uptoBulkEntries {H : Type} : List (Lit × DataW H) → Nat
  | [] => 0
  | x :: r => uptoBulkEntry x + uptoBulkEntries r
def uptoBulkEntry {H : Type} : Lit × DataW H → Nat
  | (.string bytes, d) => bytes.length + uptoBulk d + 1
  | (_, d) => uptoBulk d + 1
 end
def uptoSmall : (H : Type) → List (DataW H) → Bool := fun _ ds => decide (uptoBulkAll ds ≤ 1048576)
def OpenSpec.upto (s : _root_.Go.ChangeSpec) : _root_.Go.OpenSpec := { _root_.Go.OpenSpec.ofChange s with cond := some uptoSmall }

/-- 'tithinglaw11.BorderCarries', WHERE WHAT IT READS IS OF BULK AT MOST 1048576: true; the input reads as it did. -/
def borderCarriesUptoRow : OpenClaim := { program := "ytoeabajigfdkaaa", sum := "25b5bcc2574dd86852949049ffcf50e1905a416923c57201a4a15d4728530406", func := "tithing/tithinglaw11.BorderCarries", spec := "borderCarries", unfollowed := true, recurses := true, plainKeys := false, apart := false, narrowed := true }
def BorderCarriesUptoSaid : Prop := borderCarriesUptoRow.holds Try.pinned (OpenSpec.upto borderCarriesSpec)

/-- 'tithinglaw11.BorderSame', WHERE WHAT IT READS IS OF BULK AT MOST 1048576: true; the input reads as it did. -/
def borderSameUptoRow : OpenClaim := { program := "ytoeabajigfdkaaa", sum := "25b5bcc2574dd86852949049ffcf50e1905a416923c57201a4a15d4728530406", func := "tithing/tithinglaw11.BorderSame", spec := "borderSame", unfollowed := true, recurses := true, plainKeys := false, apart := false, narrowed := true }
def BorderSameUptoSaid : Prop := borderSameUptoRow.holds Try.pinned (OpenSpec.upto borderSameSpec)

/-- 'tithinglaw11.BorderMerged', WHERE WHAT IT READS IS OF BULK AT MOST 1048576: true; the input reads as it did. -/
def borderMergedUptoRow : OpenClaim := { program := "ytoeabajigfdkaaa", sum := "25b5bcc2574dd86852949049ffcf50e1905a416923c57201a4a15d4728530406", func := "tithing/tithinglaw11.BorderMerged", spec := "borderMerged", unfollowed := true, recurses := true, plainKeys := false, apart := false, narrowed := true }
def BorderMergedUptoSaid : Prop := borderMergedUptoRow.holds Try.pinned (OpenSpec.upto borderMergedSpec)

/-- 'tithinglaw11.BorderWider', WHERE WHAT IT READS IS OF BULK AT MOST 1048576: true; the input reads as it did. -/
def borderWiderUptoRow : OpenClaim := { program := "ytoeabajigfdkaaa", sum := "25b5bcc2574dd86852949049ffcf50e1905a416923c57201a4a15d4728530406", func := "tithing/tithinglaw11.BorderWider", spec := "borderWider", unfollowed := true, recurses := true, plainKeys := false, apart := false, narrowed := true }
def BorderWiderUptoSaid : Prop := borderWiderUptoRow.holds Try.pinned (OpenSpec.upto borderWiderSpec)

/-- 'tithinglaw11.BorderScaled', WHERE WHAT IT READS IS OF BULK AT MOST 1048576: true; the input reads as it did. -/
def borderScaledUptoRow : OpenClaim := { program := "ytoeabajigfdkaaa", sum := "25b5bcc2574dd86852949049ffcf50e1905a416923c57201a4a15d4728530406", func := "tithing/tithinglaw11.BorderScaled", spec := "borderScaled", unfollowed := true, recurses := true, plainKeys := false, apart := false, narrowed := true }
def BorderScaledUptoSaid : Prop := borderScaledUptoRow.holds Try.pinned (OpenSpec.upto borderScaledSpec)

/-- 'tithinglaw11.BorderOffs', WHERE WHAT IT READS IS OF BULK AT MOST 1048576: true; the input reads as it did. -/
def borderOffsUptoRow : OpenClaim := { program := "ytoeabajigfdkaaa", sum := "25b5bcc2574dd86852949049ffcf50e1905a416923c57201a4a15d4728530406", func := "tithing/tithinglaw11.BorderOffs", spec := "borderOffs", unfollowed := true, recurses := true, plainKeys := false, apart := false, narrowed := true }
def BorderOffsUptoSaid : Prop := borderOffsUptoRow.holds Try.pinned (OpenSpec.upto borderOffsSpec)

/-- 'tithinglaw11.BorderJoined', WHERE WHAT IT READS IS OF BULK AT MOST 1048576: true; the input reads as it did. -/
def borderJoinedUptoRow : OpenClaim := { program := "ytoeabajigfdkaaa", sum := "25b5bcc2574dd86852949049ffcf50e1905a416923c57201a4a15d4728530406", func := "tithing/tithinglaw11.BorderJoined", spec := "borderJoined", unfollowed := true, recurses := true, plainKeys := false, apart := false, narrowed := true }
def BorderJoinedUptoSaid : Prop := borderJoinedUptoRow.holds Try.pinned (OpenSpec.upto borderJoinedSpec)

/-- 'tithinglaw11.BorderBests', WHERE WHAT IT READS IS OF BULK AT MOST 1048576: true; the input reads as it did. -/
def borderBestsUptoRow : OpenClaim := { program := "ytoeabajigfdkaaa", sum := "25b5bcc2574dd86852949049ffcf50e1905a416923c57201a4a15d4728530406", func := "tithing/tithinglaw11.BorderBests", spec := "borderBests", unfollowed := true, recurses := true, plainKeys := false, apart := false, narrowed := true }
def BorderBestsUptoSaid : Prop := borderBestsUptoRow.holds Try.pinned (OpenSpec.upto borderBestsSpec)

/-- 'tithinglaw11.BorderRight', WHERE WHAT IT READS IS OF BULK AT MOST 1048576: true; the input reads as it did. -/
def borderRightUptoRow : OpenClaim := { program := "ytoeabajigfdkaaa", sum := "25b5bcc2574dd86852949049ffcf50e1905a416923c57201a4a15d4728530406", func := "tithing/tithinglaw11.BorderRight", spec := "borderRight", unfollowed := true, recurses := true, plainKeys := false, apart := false, narrowed := true }
def BorderRightUptoSaid : Prop := borderRightUptoRow.holds Try.pinned (OpenSpec.upto borderRightSpec)

/-- 'tithinglaw11.BorderBounds', WHERE WHAT IT READS IS OF BULK AT MOST 1048576: true; the input reads as it did. -/
def borderBoundsUptoRow : OpenClaim := { program := "ytoeabajigfdkaaa", sum := "25b5bcc2574dd86852949049ffcf50e1905a416923c57201a4a15d4728530406", func := "tithing/tithinglaw11.BorderBounds", spec := "borderBounds", unfollowed := true, recurses := true, plainKeys := false, apart := false, narrowed := true }
def BorderBoundsUptoSaid : Prop := borderBoundsUptoRow.holds Try.pinned (OpenSpec.upto borderBoundsSpec)

/-- 'tithinglaw11.BorderTruth', WHERE WHAT IT READS IS OF BULK AT MOST 1048576: true; the input reads as it did. -/
def borderTruthUptoRow : OpenClaim := { program := "ytoeabajigfdkaaa", sum := "25b5bcc2574dd86852949049ffcf50e1905a416923c57201a4a15d4728530406", func := "tithing/tithinglaw11.BorderTruth", spec := "borderTruth", unfollowed := true, recurses := true, plainKeys := false, apart := false, narrowed := true }
def BorderTruthUptoSaid : Prop := borderTruthUptoRow.holds Try.pinned (OpenSpec.upto borderTruthSpec)

/-- 'tithinglaw11.BorderEnds', WHERE WHAT IT READS IS OF BULK AT MOST 1048576: true; the input reads as it did. -/
def borderEndsUptoRow : OpenClaim := { program := "ytoeabajigfdkaaa", sum := "25b5bcc2574dd86852949049ffcf50e1905a416923c57201a4a15d4728530406", func := "tithing/tithinglaw11.BorderEnds", spec := "borderEnds", unfollowed := true, recurses := true, plainKeys := false, apart := false, narrowed := true }
def BorderEndsUptoSaid : Prop := borderEndsUptoRow.holds Try.pinned (OpenSpec.upto borderEndsSpec)

/-- 'tithinglaw11.BorderNames', WHERE WHAT IT READS IS OF BULK AT MOST 1048576: true; the input reads as it did. -/
def borderNamesUptoRow : OpenClaim := { program := "ytoeabajigfdkaaa", sum := "25b5bcc2574dd86852949049ffcf50e1905a416923c57201a4a15d4728530406", func := "tithing/tithinglaw11.BorderNames", spec := "borderNames", unfollowed := true, recurses := true, plainKeys := false, apart := false, narrowed := true }
def BorderNamesUptoSaid : Prop := borderNamesUptoRow.holds Try.pinned (OpenSpec.upto borderNamesSpec)

end Rows
end Go.Proofs.Ytoeabajigfdkaaa
