/-
  No cell of these rows narrows 'for every input' (looked for: loops, veiled, ifaces, maps, wideKeys, modest, calm, conditions, laid).
  DERIVED. THE GIVEN ROWS OF THIS SEAT. 4 by the template 'for every input the law returns true; each argument reads behind the call as it read before'; 0 by the template 'total and deterministic' (their statements: YtpmfohhpaoagfaaTotals.lean).
  GIVEN WITH THE SEED: the statements are not yours to turn. If you find one false, say at which input.
  Laid BY PROGRAM, IN A SANDBOX (cutbox-rows.mjs): the forced cells as the released guide's own fill.sh prints them over the translation 5c9422927e4ad990… (all of the seat's roots in one cut). By AI agents, Wed Nov 11 2026. No macro, syntax, notation, axiom, sorry.
-/
import Derived.Test.YtpmfohhpaoagfaaChecked
import GoSem.Claim
import GoSem.ClaimJoined
import GoSem.ClaimMapViews
import Derived.JoinedTies
import Derived.KernelRfl
namespace Go.Proofs.Ytpmfohhpaoagfaa
/- THE CELL 'sum', in the pinned program and in every row, IS THE sha256 OF THE DUMP (.gsa) THAT YtpmfohhpaoagfaaProg.lean LOADS. Nothing in Lean hashes anything: it is a label: what it is worth is what the hold of that sum in a sandbox is worth. -/
noncomputable def Try.pinned : Pinned := { name := "ytpmfohhpaoagfaa", sum := "5c9422927e4ad9902acf503c1aa30925e68f23f8ae3cf6b3084a698b64efe230", checked := Try.checked }
namespace Rows
def none {H : Type} : Left H := { results := [], args := [] }

/-- 'polestarlaw14.PeriodPell': WHATEVER THE INPUT: true; the input reads as it did. -/
def periodPellSpec : ChangeSpec := { name := "periodPell", fn := fun _ => fun
  | [d1, d2, d3] => { results := [.lit (.bool true)], args := [d1, d2, d3] }
  | _ => none }
def periodPellRow : OpenClaim := { program := "ytpmfohhpaoagfaa", sum := "5c9422927e4ad9902acf503c1aa30925e68f23f8ae3cf6b3084a698b64efe230", func := "polestar/polestarlaw14.PeriodPell", spec := "periodPell", unfollowed := true, recurses := true, named := ["math/bits.overflowError"], apart := false }
def PeriodPellSaid : Prop := periodPellRow.holds Try.pinned (OpenSpec.ofChange periodPellSpec)

/-- ITS FALSE NEIGHBOUR: 'it returns false'. Refute it at one input. -/
def periodPellWrong : ChangeSpec := { name := "periodPell", fn := fun _ => fun
  | [d1, d2, d3] => { results := [.lit (.bool false)], args := [d1, d2, d3] }
  | _ => none }
def PeriodPellWrongFalsely : Prop := periodPellRow.holds Try.pinned (OpenSpec.ofChange periodPellWrong)

/-- 'polestarlaw14.PeriodNames': WHATEVER THE INPUT: true; the input reads as it did. -/
def periodNamesSpec : ChangeSpec := { name := "periodNames", fn := fun _ => fun
  | [] => { results := [.lit (.bool true)], args := [] }
  | _ => none }
def periodNamesRow : OpenClaim := { program := "ytpmfohhpaoagfaa", sum := "5c9422927e4ad9902acf503c1aa30925e68f23f8ae3cf6b3084a698b64efe230", func := "polestar/polestarlaw14.PeriodNames", spec := "periodNames", unfollowed := true, recurses := true, named := ["math/bits.overflowError"], apart := false }
def PeriodNamesSaid : Prop := periodNamesRow.holds Try.pinned (OpenSpec.ofChange periodNamesSpec)

/-- ITS FALSE NEIGHBOUR: 'it returns false'. Refute it at one input. -/
def periodNamesWrong : ChangeSpec := { name := "periodNames", fn := fun _ => fun
  | [] => { results := [.lit (.bool false)], args := [] }
  | _ => none }
def PeriodNamesWrongFalsely : Prop := periodNamesRow.holds Try.pinned (OpenSpec.ofChange periodNamesWrong)

/-- 'polestarlaw14.PeriodSteps': WHATEVER THE INPUT: true; the input reads as it did. -/
def periodStepsSpec : ChangeSpec := { name := "periodSteps", fn := fun _ => fun
  | [d1, d2, d3] => { results := [.lit (.bool true)], args := [d1, d2, d3] }
  | _ => none }
def periodStepsRow : OpenClaim := { program := "ytpmfohhpaoagfaa", sum := "5c9422927e4ad9902acf503c1aa30925e68f23f8ae3cf6b3084a698b64efe230", func := "polestar/polestarlaw14.PeriodSteps", spec := "periodSteps", unfollowed := true, recurses := true, named := ["math/bits.overflowError"], apart := false }
def PeriodStepsSaid : Prop := periodStepsRow.holds Try.pinned (OpenSpec.ofChange periodStepsSpec)

/-- ITS FALSE NEIGHBOUR: 'it returns false'. Refute it at one input. -/
def periodStepsWrong : ChangeSpec := { name := "periodSteps", fn := fun _ => fun
  | [d1, d2, d3] => { results := [.lit (.bool false)], args := [d1, d2, d3] }
  | _ => none }
def PeriodStepsWrongFalsely : Prop := periodStepsRow.holds Try.pinned (OpenSpec.ofChange periodStepsWrong)

/-- 'polestarlaw14.PeriodReturns': WHATEVER THE INPUT: true; the input reads as it did. -/
def periodReturnsSpec : ChangeSpec := { name := "periodReturns", fn := fun _ => fun
  | [d1, d2, d3] => { results := [.lit (.bool true)], args := [d1, d2, d3] }
  | _ => none }
def periodReturnsRow : OpenClaim := { program := "ytpmfohhpaoagfaa", sum := "5c9422927e4ad9902acf503c1aa30925e68f23f8ae3cf6b3084a698b64efe230", func := "polestar/polestarlaw14.PeriodReturns", spec := "periodReturns", unfollowed := true, recurses := true, named := ["math/bits.overflowError"], apart := false }
def PeriodReturnsSaid : Prop := periodReturnsRow.holds Try.pinned (OpenSpec.ofChange periodReturnsSpec)

/-- ITS FALSE NEIGHBOUR: 'it returns false'. Refute it at one input. -/
def periodReturnsWrong : ChangeSpec := { name := "periodReturns", fn := fun _ => fun
  | [d1, d2, d3] => { results := [.lit (.bool false)], args := [d1, d2, d3] }
  | _ => none }
def PeriodReturnsWrongFalsely : Prop := periodReturnsRow.holds Try.pinned (OpenSpec.ofChange periodReturnsWrong)

/- THE SECOND FORM. 'bulk': how many values and letters a reading holds, each counted each time it is reached (what is shared counts as often as it is met; a slice's spare places count too). A statement '..UptoSaid' is the law's where the arguments, and the package variables that the reading takes, are together of bulk at most 1048576: NARROWER than '..Said'. Prove '..Said' where nothing that the law and all that it calls make is longer than what came in: it says more and counts as full. Else prove '..UptoSaid'. A law counts once. -/
mutual
def uptoBulk {H : Type} : DataW H → Nat
  | .lit (.string bytes) => bytes.length + 1
  | .lit _ => 1
  | .nil => 1
  | .ptr d => uptoBulk d + 1
  | .slice elems spare => uptoBulkAll elems + uptoBulkAll spare + 1
  | .agg parts => uptoBulkAll parts + 1
  | .iface _ d => uptoBulk d + 1
  | .map entries => uptoBulkEntries entries + 1
  | .held _ => 1
def uptoBulkAll {H : Type} : List (DataW H) → Nat
  | [] => 0
  | d :: r => uptoBulk d + uptoBulkAll r
def uptoBulkEntries {H : Type} : List (Lit × DataW H) → Nat
  | [] => 0
  | x :: r => uptoBulkEntry x + uptoBulkEntries r
def uptoBulkEntry {H : Type} : Lit × DataW H → Nat
  | (.string bytes, d) => bytes.length + uptoBulk d + 1
  | (_, d) => uptoBulk d + 1
 end
def uptoSmall : (H : Type) → List (DataW H) → Bool := fun _ ds => decide (uptoBulkAll ds ≤ 1048576)
def OpenSpec.upto (s : _root_.Go.ChangeSpec) : _root_.Go.OpenSpec := { _root_.Go.OpenSpec.ofChange s with cond := some uptoSmall }

/-- 'polestarlaw14.PeriodPell', WHERE WHAT IT READS IS OF BULK AT MOST 1048576: true; the input reads as it did. -/
def periodPellUptoRow : OpenClaim := { program := "ytpmfohhpaoagfaa", sum := "5c9422927e4ad9902acf503c1aa30925e68f23f8ae3cf6b3084a698b64efe230", func := "polestar/polestarlaw14.PeriodPell", spec := "periodPell", unfollowed := true, recurses := true, named := ["math/bits.overflowError"], apart := false, narrowed := true }
def PeriodPellUptoSaid : Prop := periodPellUptoRow.holds Try.pinned (OpenSpec.upto periodPellSpec)

/-- 'polestarlaw14.PeriodNames', WHERE WHAT IT READS IS OF BULK AT MOST 1048576: true; the input reads as it did. -/
def periodNamesUptoRow : OpenClaim := { program := "ytpmfohhpaoagfaa", sum := "5c9422927e4ad9902acf503c1aa30925e68f23f8ae3cf6b3084a698b64efe230", func := "polestar/polestarlaw14.PeriodNames", spec := "periodNames", unfollowed := true, recurses := true, named := ["math/bits.overflowError"], apart := false, narrowed := true }
def PeriodNamesUptoSaid : Prop := periodNamesUptoRow.holds Try.pinned (OpenSpec.upto periodNamesSpec)

/-- 'polestarlaw14.PeriodSteps', WHERE WHAT IT READS IS OF BULK AT MOST 1048576: true; the input reads as it did. -/
def periodStepsUptoRow : OpenClaim := { program := "ytpmfohhpaoagfaa", sum := "5c9422927e4ad9902acf503c1aa30925e68f23f8ae3cf6b3084a698b64efe230", func := "polestar/polestarlaw14.PeriodSteps", spec := "periodSteps", unfollowed := true, recurses := true, named := ["math/bits.overflowError"], apart := false, narrowed := true }
def PeriodStepsUptoSaid : Prop := periodStepsUptoRow.holds Try.pinned (OpenSpec.upto periodStepsSpec)

/-- 'polestarlaw14.PeriodReturns', WHERE WHAT IT READS IS OF BULK AT MOST 1048576: true; the input reads as it did. -/
def periodReturnsUptoRow : OpenClaim := { program := "ytpmfohhpaoagfaa", sum := "5c9422927e4ad9902acf503c1aa30925e68f23f8ae3cf6b3084a698b64efe230", func := "polestar/polestarlaw14.PeriodReturns", spec := "periodReturns", unfollowed := true, recurses := true, named := ["math/bits.overflowError"], apart := false, narrowed := true }
def PeriodReturnsUptoSaid : Prop := periodReturnsUptoRow.holds Try.pinned (OpenSpec.upto periodReturnsSpec)

end Rows
end Go.Proofs.Ytpmfohhpaoagfaa
