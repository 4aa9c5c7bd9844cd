/-
  No cell of these rows narrows 'for every input' (looked for: loops, veiled, ifaces, maps, wideKeys, modest, calm, conditions, laid).
  DERIVED. THE GIVEN ROWS OF THIS SEAT. 9 by the template 'for every input the law returns true; each argument reads behind the call as it read before'; 0 by the template 'total and deterministic' (their statements: YtficghohflmdeaaTotals.lean).
  GIVEN WITH THE SEED: the statements are not yours to turn. If you find one false, say at which input.
  Laid BY PROGRAM, IN A SANDBOX (cutbox-rows.mjs): the forced cells as the released guide's own fill.sh prints them over the translation 95507a98bd96a8de… (all of the seat's roots in one cut). By AI agents, Wed Nov 11 2026. No macro, syntax, notation, axiom, sorry.
-/
import Derived.Test.YtficghohflmdeaaChecked
import GoSem.Claim
import GoSem.ClaimJoined
import GoSem.ClaimMapViews
import Derived.JoinedTies
import Derived.KernelRfl
namespace Go.Proofs.Ytficghohflmdeaa
/- THE CELL 'sum', in the pinned program and in every row, IS THE sha256 OF THE DUMP (.gsa) THAT YtficghohflmdeaaProg.lean LOADS. Nothing in Lean hashes anything: it is a label: what it is worth is what the hold of that sum in a sandbox is worth. -/
noncomputable def Try.pinned : Pinned := { name := "ytficghohflmdeaa", sum := "95507a98bd96a8de29c92ef2718895c3d51f3e94485f5f84ccaee0d5f9570769", checked := Try.checked }
namespace Rows
def none {H : Type} : Left H := { results := [], args := [] }

/-- 'laws.FnExactPhaseOf': WHATEVER THE INPUT: true; the input reads as it did. -/
def fnExactPhaseOfSpec : ChangeSpec := { name := "fnExactPhaseOf", fn := fun _ => fun
  | [d] => { results := [.lit (.bool true)], args := [d] }
  | _ => none }
def fnExactPhaseOfRow : OpenClaim := { program := "ytficghohflmdeaa", sum := "95507a98bd96a8de29c92ef2718895c3d51f3e94485f5f84ccaee0d5f9570769", func := "loop.example/g01225/laws.FnExactPhaseOf", spec := "fnExactPhaseOf", inPlace := ["math.sqrt"], unfollowed := true, recurses := true, apart := false }
def FnExactPhaseOfSaid : Prop := fnExactPhaseOfRow.holds Try.pinned (OpenSpec.ofChange fnExactPhaseOfSpec)

/-- ITS FALSE NEIGHBOUR: 'it returns false'. Refute it at one input. -/
def fnExactPhaseOfWrong : ChangeSpec := { name := "fnExactPhaseOf", fn := fun _ => fun
  | [d] => { results := [.lit (.bool false)], args := [d] }
  | _ => none }
def FnExactPhaseOfWrongFalsely : Prop := fnExactPhaseOfRow.holds Try.pinned (OpenSpec.ofChange fnExactPhaseOfWrong)

/-- 'laws.FnExactBlazedWave': WHATEVER THE INPUT: true; the input reads as it did. -/
def fnExactBlazedWaveSpec : ChangeSpec := { name := "fnExactBlazedWave", fn := fun _ => fun
  | [d1, d2, d3] => { results := [.lit (.bool true)], args := [d1, d2, d3] }
  | _ => none }
def fnExactBlazedWaveRow : OpenClaim := { program := "ytficghohflmdeaa", sum := "95507a98bd96a8de29c92ef2718895c3d51f3e94485f5f84ccaee0d5f9570769", func := "loop.example/g01225/laws.FnExactBlazedWave", spec := "fnExactBlazedWave", inPlace := ["math.sqrt"], unfollowed := true, recurses := true, apart := false }
def FnExactBlazedWaveSaid : Prop := fnExactBlazedWaveRow.holds Try.pinned (OpenSpec.ofChange fnExactBlazedWaveSpec)

/-- ITS FALSE NEIGHBOUR: 'it returns false'. Refute it at one input. -/
def fnExactBlazedWaveWrong : ChangeSpec := { name := "fnExactBlazedWave", fn := fun _ => fun
  | [d1, d2, d3] => { results := [.lit (.bool false)], args := [d1, d2, d3] }
  | _ => none }
def FnExactBlazedWaveWrongFalsely : Prop := fnExactBlazedWaveRow.holds Try.pinned (OpenSpec.ofChange fnExactBlazedWaveWrong)

/-- 'laws.FnExactPlaneWave': WHATEVER THE INPUT: true; the input reads as it did. -/
def fnExactPlaneWaveSpec : ChangeSpec := { name := "fnExactPlaneWave", fn := fun _ => fun
  | [d1, d2, d3] => { results := [.lit (.bool true)], args := [d1, d2, d3] }
  | _ => none }
def fnExactPlaneWaveRow : OpenClaim := { program := "ytficghohflmdeaa", sum := "95507a98bd96a8de29c92ef2718895c3d51f3e94485f5f84ccaee0d5f9570769", func := "loop.example/g01225/laws.FnExactPlaneWave", spec := "fnExactPlaneWave", inPlace := ["math.sqrt"], unfollowed := true, recurses := true, apart := false }
def FnExactPlaneWaveSaid : Prop := fnExactPlaneWaveRow.holds Try.pinned (OpenSpec.ofChange fnExactPlaneWaveSpec)

/-- ITS FALSE NEIGHBOUR: 'it returns false'. Refute it at one input. -/
def fnExactPlaneWaveWrong : ChangeSpec := { name := "fnExactPlaneWave", fn := fun _ => fun
  | [d1, d2, d3] => { results := [.lit (.bool false)], args := [d1, d2, d3] }
  | _ => none }
def FnExactPlaneWaveWrongFalsely : Prop := fnExactPlaneWaveRow.holds Try.pinned (OpenSpec.ofChange fnExactPlaneWaveWrong)

/-- 'laws.FnExactLensWave': WHATEVER THE INPUT: true; the input reads as it did. -/
def fnExactLensWaveSpec : ChangeSpec := { name := "fnExactLensWave", fn := fun _ => fun
  | [d1, d2, d3, d4] => { results := [.lit (.bool true)], args := [d1, d2, d3, d4] }
  | _ => none }
def fnExactLensWaveRow : OpenClaim := { program := "ytficghohflmdeaa", sum := "95507a98bd96a8de29c92ef2718895c3d51f3e94485f5f84ccaee0d5f9570769", func := "loop.example/g01225/laws.FnExactLensWave", spec := "fnExactLensWave", inPlace := ["math.sqrt"], unfollowed := true, recurses := true, apart := false }
def FnExactLensWaveSaid : Prop := fnExactLensWaveRow.holds Try.pinned (OpenSpec.ofChange fnExactLensWaveSpec)

/-- ITS FALSE NEIGHBOUR: 'it returns false'. Refute it at one input. -/
def fnExactLensWaveWrong : ChangeSpec := { name := "fnExactLensWave", fn := fun _ => fun
  | [d1, d2, d3, d4] => { results := [.lit (.bool false)], args := [d1, d2, d3, d4] }
  | _ => none }
def FnExactLensWaveWrongFalsely : Prop := fnExactLensWaveRow.holds Try.pinned (OpenSpec.ofChange fnExactLensWaveWrong)

/-- 'laws.FnExactTransferTable': WHATEVER THE INPUT: true; the input reads as it did. -/
def fnExactTransferTableSpec : ChangeSpec := { name := "fnExactTransferTable", fn := fun _ => fun
  | [d1, d2] => { results := [.lit (.bool true)], args := [d1, d2] }
  | _ => none }
def fnExactTransferTableRow : OpenClaim := { program := "ytficghohflmdeaa", sum := "95507a98bd96a8de29c92ef2718895c3d51f3e94485f5f84ccaee0d5f9570769", func := "loop.example/g01225/laws.FnExactTransferTable", spec := "fnExactTransferTable", inPlace := ["math.sqrt"], unfollowed := true, recurses := true, apart := false }
def FnExactTransferTableSaid : Prop := fnExactTransferTableRow.holds Try.pinned (OpenSpec.ofChange fnExactTransferTableSpec)

/-- ITS FALSE NEIGHBOUR: 'it returns false'. Refute it at one input. -/
def fnExactTransferTableWrong : ChangeSpec := { name := "fnExactTransferTable", fn := fun _ => fun
  | [d1, d2] => { results := [.lit (.bool false)], args := [d1, d2] }
  | _ => none }
def FnExactTransferTableWrongFalsely : Prop := fnExactTransferTableRow.holds Try.pinned (OpenSpec.ofChange fnExactTransferTableWrong)

/-- 'laws.FnExactWaveOfHeights': WHATEVER THE INPUT: true; the input reads as it did. -/
def fnExactWaveOfHeightsSpec : ChangeSpec := { name := "fnExactWaveOfHeights", fn := fun _ => fun
  | [d1, d2] => { results := [.lit (.bool true)], args := [d1, d2] }
  | _ => none }
def fnExactWaveOfHeightsRow : OpenClaim := { program := "ytficghohflmdeaa", sum := "95507a98bd96a8de29c92ef2718895c3d51f3e94485f5f84ccaee0d5f9570769", func := "loop.example/g01225/laws.FnExactWaveOfHeights", spec := "fnExactWaveOfHeights", inPlace := ["math.sqrt"], unfollowed := true, recurses := true, apart := false }
def FnExactWaveOfHeightsSaid : Prop := fnExactWaveOfHeightsRow.holds Try.pinned (OpenSpec.ofChange fnExactWaveOfHeightsSpec)

/-- ITS FALSE NEIGHBOUR: 'it returns false'. Refute it at one input. -/
def fnExactWaveOfHeightsWrong : ChangeSpec := { name := "fnExactWaveOfHeights", fn := fun _ => fun
  | [d1, d2] => { results := [.lit (.bool false)], args := [d1, d2] }
  | _ => none }
def FnExactWaveOfHeightsWrongFalsely : Prop := fnExactWaveOfHeightsRow.holds Try.pinned (OpenSpec.ofChange fnExactWaveOfHeightsWrong)

/-- 'laws.FnExactAmplitudesOf': WHATEVER THE INPUT: true; the input reads as it did. -/
def fnExactAmplitudesOfSpec : ChangeSpec := { name := "fnExactAmplitudesOf", fn := fun _ => fun
  | [d] => { results := [.lit (.bool true)], args := [d] }
  | _ => none }
def fnExactAmplitudesOfRow : OpenClaim := { program := "ytficghohflmdeaa", sum := "95507a98bd96a8de29c92ef2718895c3d51f3e94485f5f84ccaee0d5f9570769", func := "loop.example/g01225/laws.FnExactAmplitudesOf", spec := "fnExactAmplitudesOf", inPlace := ["math.sqrt"], unfollowed := true, recurses := true, apart := false }
def FnExactAmplitudesOfSaid : Prop := fnExactAmplitudesOfRow.holds Try.pinned (OpenSpec.ofChange fnExactAmplitudesOfSpec)

/-- ITS FALSE NEIGHBOUR: 'it returns false'. Refute it at one input. -/
def fnExactAmplitudesOfWrong : ChangeSpec := { name := "fnExactAmplitudesOf", fn := fun _ => fun
  | [d] => { results := [.lit (.bool false)], args := [d] }
  | _ => none }
def FnExactAmplitudesOfWrongFalsely : Prop := fnExactAmplitudesOfRow.holds Try.pinned (OpenSpec.ofChange fnExactAmplitudesOfWrong)

/-- 'laws.FnExactStartWave': WHATEVER THE INPUT: true; the input reads as it did. -/
def fnExactStartWaveSpec : ChangeSpec := { name := "fnExactStartWave", fn := fun _ => fun
  | [d1, d2] => { results := [.lit (.bool true)], args := [d1, d2] }
  | _ => none }
def fnExactStartWaveRow : OpenClaim := { program := "ytficghohflmdeaa", sum := "95507a98bd96a8de29c92ef2718895c3d51f3e94485f5f84ccaee0d5f9570769", func := "loop.example/g01225/laws.FnExactStartWave", spec := "fnExactStartWave", inPlace := ["math.sqrt"], unfollowed := true, recurses := true, apart := false }
def FnExactStartWaveSaid : Prop := fnExactStartWaveRow.holds Try.pinned (OpenSpec.ofChange fnExactStartWaveSpec)

/-- ITS FALSE NEIGHBOUR: 'it returns false'. Refute it at one input. -/
def fnExactStartWaveWrong : ChangeSpec := { name := "fnExactStartWave", fn := fun _ => fun
  | [d1, d2] => { results := [.lit (.bool false)], args := [d1, d2] }
  | _ => none }
def FnExactStartWaveWrongFalsely : Prop := fnExactStartWaveRow.holds Try.pinned (OpenSpec.ofChange fnExactStartWaveWrong)

/-- 'laws.FnExactPlaneSource': WHATEVER THE INPUT: true; the input reads as it did. -/
def fnExactPlaneSourceSpec : ChangeSpec := { name := "fnExactPlaneSource", fn := fun _ => fun
  | [d1, d2] => { results := [.lit (.bool true)], args := [d1, d2] }
  | _ => none }
def fnExactPlaneSourceRow : OpenClaim := { program := "ytficghohflmdeaa", sum := "95507a98bd96a8de29c92ef2718895c3d51f3e94485f5f84ccaee0d5f9570769", func := "loop.example/g01225/laws.FnExactPlaneSource", spec := "fnExactPlaneSource", inPlace := ["math.sqrt"], unfollowed := true, recurses := true, apart := false }
def FnExactPlaneSourceSaid : Prop := fnExactPlaneSourceRow.holds Try.pinned (OpenSpec.ofChange fnExactPlaneSourceSpec)

/-- ITS FALSE NEIGHBOUR: 'it returns false'. Refute it at one input. -/
def fnExactPlaneSourceWrong : ChangeSpec := { name := "fnExactPlaneSource", fn := fun _ => fun
  | [d1, d2] => { results := [.lit (.bool false)], args := [d1, d2] }
  | _ => none }
def FnExactPlaneSourceWrongFalsely : Prop := fnExactPlaneSourceRow.holds Try.pinned (OpenSpec.ofChange fnExactPlaneSourceWrong)

/- THE SECOND FORM. 'bulk': how many values and letters a reading holds, each counted each time it is reached (what is shared counts as often as it is met; a slice's spare places count too). A statement '..UptoSaid' is the law's where the arguments, and the package variables that the reading takes, are together of bulk at most 1048576: NARROWER than '..Said'. Prove '..Said' where nothing that the law and all that it calls make is longer than what came in: it says more and counts as full. Else prove '..UptoSaid'. A law counts once. -/
mutual
def uptoBulk {H : Type} : DataW H → Nat
  | .lit (.string bytes) => bytes.length + 1
  | .lit _ => 1
  | .nil => 1
  | .ptr d => uptoBulk d + 1
  | .slice elems spare => uptoBulkAll elems + uptoBulkAll spare + 1
  | .agg parts => uptoBulkAll parts + 1
  | .iface _ d => uptoBulk d + 1
  | .map entries => uptoBulkEntries entries + 1
  | .held _ => 1
def uptoBulkAll {H : Type} : List (DataW H) → Nat
  | [] => 0
  | d :: r => uptoBulk d + uptoBulkAll r
def uptoBulkEntries {H : Type} : List (Lit × DataW H) → Nat
  | [] => 0
  | x :: r => uptoBulkEntry x + uptoBulkEntries r
def uptoBulkEntry {H : Type} : Lit × DataW H → Nat
  | (.string bytes, d) => bytes.length + uptoBulk d + 1
  | (_, d) => uptoBulk d + 1
 end
def uptoSmall : (H : Type) → List (DataW H) → Bool := fun _ ds => decide (uptoBulkAll ds ≤ 1048576)
def OpenSpec.upto (s : _root_.Go.ChangeSpec) : _root_.Go.OpenSpec := { _root_.Go.OpenSpec.ofChange s with cond := some uptoSmall }

/-- 'laws.FnExactPhaseOf', WHERE WHAT IT READS IS OF BULK AT MOST 1048576: true; the input reads as it did. -/
def fnExactPhaseOfUptoRow : OpenClaim := { program := "ytficghohflmdeaa", sum := "95507a98bd96a8de29c92ef2718895c3d51f3e94485f5f84ccaee0d5f9570769", func := "loop.example/g01225/laws.FnExactPhaseOf", spec := "fnExactPhaseOf", inPlace := ["math.sqrt"], unfollowed := true, recurses := true, apart := false, narrowed := true }
def FnExactPhaseOfUptoSaid : Prop := fnExactPhaseOfUptoRow.holds Try.pinned (OpenSpec.upto fnExactPhaseOfSpec)

/-- 'laws.FnExactBlazedWave', WHERE WHAT IT READS IS OF BULK AT MOST 1048576: true; the input reads as it did. -/
def fnExactBlazedWaveUptoRow : OpenClaim := { program := "ytficghohflmdeaa", sum := "95507a98bd96a8de29c92ef2718895c3d51f3e94485f5f84ccaee0d5f9570769", func := "loop.example/g01225/laws.FnExactBlazedWave", spec := "fnExactBlazedWave", inPlace := ["math.sqrt"], unfollowed := true, recurses := true, apart := false, narrowed := true }
def FnExactBlazedWaveUptoSaid : Prop := fnExactBlazedWaveUptoRow.holds Try.pinned (OpenSpec.upto fnExactBlazedWaveSpec)

/-- 'laws.FnExactPlaneWave', WHERE WHAT IT READS IS OF BULK AT MOST 1048576: true; the input reads as it did. -/
def fnExactPlaneWaveUptoRow : OpenClaim := { program := "ytficghohflmdeaa", sum := "95507a98bd96a8de29c92ef2718895c3d51f3e94485f5f84ccaee0d5f9570769", func := "loop.example/g01225/laws.FnExactPlaneWave", spec := "fnExactPlaneWave", inPlace := ["math.sqrt"], unfollowed := true, recurses := true, apart := false, narrowed := true }
def FnExactPlaneWaveUptoSaid : Prop := fnExactPlaneWaveUptoRow.holds Try.pinned (OpenSpec.upto fnExactPlaneWaveSpec)

/-- 'laws.FnExactLensWave', WHERE WHAT IT READS IS OF BULK AT MOST 1048576: true; the input reads as it did. -/
def fnExactLensWaveUptoRow : OpenClaim := { program := "ytficghohflmdeaa", sum := "95507a98bd96a8de29c92ef2718895c3d51f3e94485f5f84ccaee0d5f9570769", func := "loop.example/g01225/laws.FnExactLensWave", spec := "fnExactLensWave", inPlace := ["math.sqrt"], unfollowed := true, recurses := true, apart := false, narrowed := true }
def FnExactLensWaveUptoSaid : Prop := fnExactLensWaveUptoRow.holds Try.pinned (OpenSpec.upto fnExactLensWaveSpec)

/-- 'laws.FnExactTransferTable', WHERE WHAT IT READS IS OF BULK AT MOST 1048576: true; the input reads as it did. -/
def fnExactTransferTableUptoRow : OpenClaim := { program := "ytficghohflmdeaa", sum := "95507a98bd96a8de29c92ef2718895c3d51f3e94485f5f84ccaee0d5f9570769", func := "loop.example/g01225/laws.FnExactTransferTable", spec := "fnExactTransferTable", inPlace := ["math.sqrt"], unfollowed := true, recurses := true, apart := false, narrowed := true }
def FnExactTransferTableUptoSaid : Prop := fnExactTransferTableUptoRow.holds Try.pinned (OpenSpec.upto fnExactTransferTableSpec)

/-- 'laws.FnExactWaveOfHeights', WHERE WHAT IT READS IS OF BULK AT MOST 1048576: true; the input reads as it did. -/
def fnExactWaveOfHeightsUptoRow : OpenClaim := { program := "ytficghohflmdeaa", sum := "95507a98bd96a8de29c92ef2718895c3d51f3e94485f5f84ccaee0d5f9570769", func := "loop.example/g01225/laws.FnExactWaveOfHeights", spec := "fnExactWaveOfHeights", inPlace := ["math.sqrt"], unfollowed := true, recurses := true, apart := false, narrowed := true }
def FnExactWaveOfHeightsUptoSaid : Prop := fnExactWaveOfHeightsUptoRow.holds Try.pinned (OpenSpec.upto fnExactWaveOfHeightsSpec)

/-- 'laws.FnExactAmplitudesOf', WHERE WHAT IT READS IS OF BULK AT MOST 1048576: true; the input reads as it did. -/
def fnExactAmplitudesOfUptoRow : OpenClaim := { program := "ytficghohflmdeaa", sum := "95507a98bd96a8de29c92ef2718895c3d51f3e94485f5f84ccaee0d5f9570769", func := "loop.example/g01225/laws.FnExactAmplitudesOf", spec := "fnExactAmplitudesOf", inPlace := ["math.sqrt"], unfollowed := true, recurses := true, apart := false, narrowed := true }
def FnExactAmplitudesOfUptoSaid : Prop := fnExactAmplitudesOfUptoRow.holds Try.pinned (OpenSpec.upto fnExactAmplitudesOfSpec)

/-- 'laws.FnExactStartWave', WHERE WHAT IT READS IS OF BULK AT MOST 1048576: true; the input reads as it did. -/
def fnExactStartWaveUptoRow : OpenClaim := { program := "ytficghohflmdeaa", sum := "95507a98bd96a8de29c92ef2718895c3d51f3e94485f5f84ccaee0d5f9570769", func := "loop.example/g01225/laws.FnExactStartWave", spec := "fnExactStartWave", inPlace := ["math.sqrt"], unfollowed := true, recurses := true, apart := false, narrowed := true }
def FnExactStartWaveUptoSaid : Prop := fnExactStartWaveUptoRow.holds Try.pinned (OpenSpec.upto fnExactStartWaveSpec)

/-- 'laws.FnExactPlaneSource', WHERE WHAT IT READS IS OF BULK AT MOST 1048576: true; the input reads as it did. -/
def fnExactPlaneSourceUptoRow : OpenClaim := { program := "ytficghohflmdeaa", sum := "95507a98bd96a8de29c92ef2718895c3d51f3e94485f5f84ccaee0d5f9570769", func := "loop.example/g01225/laws.FnExactPlaneSource", spec := "fnExactPlaneSource", inPlace := ["math.sqrt"], unfollowed := true, recurses := true, apart := false, narrowed := true }
def FnExactPlaneSourceUptoSaid : Prop := fnExactPlaneSourceUptoRow.holds Try.pinned (OpenSpec.upto fnExactPlaneSourceSpec)

end Rows
end Go.Proofs.Ytficghohflmdeaa
