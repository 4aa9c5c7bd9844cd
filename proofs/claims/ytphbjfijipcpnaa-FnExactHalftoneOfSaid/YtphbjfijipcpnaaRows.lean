/-
  No cell of these rows narrows 'for every input' (looked for: loops, veiled, ifaces, maps, wideKeys, modest, calm, conditions, laid).
  DERIVED. THE GIVEN ROWS OF THIS SEAT. 9 by the template 'for every input the law returns true; each argument reads behind the call as it read before'; 0 by the template 'total and deterministic' (their statements: YtphbjfijipcpnaaTotals.lean).
  GIVEN WITH THE SEED: the statements are not yours to turn. If you find one false, say at which input.
  Laid BY PROGRAM, IN A SANDBOX (cutbox-rows.mjs): the forced cells as the released guide's own fill.sh prints them over the translation 6776dd71bd19fbbc… (all of the seat's roots in one cut). By AI agents, Wed Nov 11 2026. No macro, syntax, notation, axiom, sorry.
-/
import Derived.Test.YtphbjfijipcpnaaChecked
import GoSem.Claim
import GoSem.ClaimJoined
import GoSem.ClaimMapViews
import Derived.JoinedTies
import Derived.KernelRfl
namespace Go.Proofs.Ytphbjfijipcpnaa
/- THE CELL 'sum', in the pinned program and in every row, IS THE sha256 OF THE DUMP (.gsa) THAT YtphbjfijipcpnaaProg.lean LOADS. Nothing in Lean hashes anything: it is a label: what it is worth is what the hold of that sum in a sandbox is worth. -/
noncomputable def Try.pinned : Pinned := { name := "ytphbjfijipcpnaa", sum := "6776dd71bd19fbbc4e15e2f98b5bffc379d4924b312948ec3f4a8fdca9704b11", checked := Try.checked }
namespace Rows
def none {H : Type} : Left H := { results := [], args := [] }

/-- 'laws.FnExactCorrelateLists': WHATEVER THE INPUT: true; the input reads as it did. -/
def fnExactCorrelateListsSpec : ChangeSpec := { name := "fnExactCorrelateLists", fn := fun _ => fun
  | [d1, d2] => { results := [.lit (.bool true)], args := [d1, d2] }
  | _ => none }
def fnExactCorrelateListsRow : OpenClaim := { program := "ytphbjfijipcpnaa", sum := "6776dd71bd19fbbc4e15e2f98b5bffc379d4924b312948ec3f4a8fdca9704b11", func := "loop.example/g01225/laws.FnExactCorrelateLists", spec := "fnExactCorrelateLists", unfollowed := true, recurses := true, apart := false }
def FnExactCorrelateListsSaid : Prop := fnExactCorrelateListsRow.holds Try.pinned (OpenSpec.ofChange fnExactCorrelateListsSpec)

/-- ITS FALSE NEIGHBOUR: 'it returns false'. Refute it at one input. -/
def fnExactCorrelateListsWrong : ChangeSpec := { name := "fnExactCorrelateLists", fn := fun _ => fun
  | [d1, d2] => { results := [.lit (.bool false)], args := [d1, d2] }
  | _ => none }
def FnExactCorrelateListsWrongFalsely : Prop := fnExactCorrelateListsRow.holds Try.pinned (OpenSpec.ofChange fnExactCorrelateListsWrong)

/-- 'laws.FnExactNormPicture': WHATEVER THE INPUT: true; the input reads as it did. -/
def fnExactNormPictureSpec : ChangeSpec := { name := "fnExactNormPicture", fn := fun _ => fun
  | [d] => { results := [.lit (.bool true)], args := [d] }
  | _ => none }
def fnExactNormPictureRow : OpenClaim := { program := "ytphbjfijipcpnaa", sum := "6776dd71bd19fbbc4e15e2f98b5bffc379d4924b312948ec3f4a8fdca9704b11", func := "loop.example/g01225/laws.FnExactNormPicture", spec := "fnExactNormPicture", unfollowed := true, recurses := true, apart := false }
def FnExactNormPictureSaid : Prop := fnExactNormPictureRow.holds Try.pinned (OpenSpec.ofChange fnExactNormPictureSpec)

/-- ITS FALSE NEIGHBOUR: 'it returns false'. Refute it at one input. -/
def fnExactNormPictureWrong : ChangeSpec := { name := "fnExactNormPicture", fn := fun _ => fun
  | [d] => { results := [.lit (.bool false)], args := [d] }
  | _ => none }
def FnExactNormPictureWrongFalsely : Prop := fnExactNormPictureRow.holds Try.pinned (OpenSpec.ofChange fnExactNormPictureWrong)

/-- 'laws.FnExactHalftoneOf': WHATEVER THE INPUT: true; the input reads as it did. -/
def fnExactHalftoneOfSpec : ChangeSpec := { name := "fnExactHalftoneOf", fn := fun _ => fun
  | [d1, d2] => { results := [.lit (.bool true)], args := [d1, d2] }
  | _ => none }
def fnExactHalftoneOfRow : OpenClaim := { program := "ytphbjfijipcpnaa", sum := "6776dd71bd19fbbc4e15e2f98b5bffc379d4924b312948ec3f4a8fdca9704b11", func := "loop.example/g01225/laws.FnExactHalftoneOf", spec := "fnExactHalftoneOf", unfollowed := true, recurses := true, apart := false }
def FnExactHalftoneOfSaid : Prop := fnExactHalftoneOfRow.holds Try.pinned (OpenSpec.ofChange fnExactHalftoneOfSpec)

/-- ITS FALSE NEIGHBOUR: 'it returns false'. Refute it at one input. -/
def fnExactHalftoneOfWrong : ChangeSpec := { name := "fnExactHalftoneOf", fn := fun _ => fun
  | [d1, d2] => { results := [.lit (.bool false)], args := [d1, d2] }
  | _ => none }
def FnExactHalftoneOfWrongFalsely : Prop := fnExactHalftoneOfRow.holds Try.pinned (OpenSpec.ofChange fnExactHalftoneOfWrong)

/-- 'laws.FnExactSumsByCodes': WHATEVER THE INPUT: true; the input reads as it did. -/
def fnExactSumsByCodesSpec : ChangeSpec := { name := "fnExactSumsByCodes", fn := fun _ => fun
  | [d] => { results := [.lit (.bool true)], args := [d] }
  | _ => none }
def fnExactSumsByCodesRow : OpenClaim := { program := "ytphbjfijipcpnaa", sum := "6776dd71bd19fbbc4e15e2f98b5bffc379d4924b312948ec3f4a8fdca9704b11", func := "loop.example/g01225/laws.FnExactSumsByCodes", spec := "fnExactSumsByCodes", unfollowed := true, recurses := true, apart := false }
def FnExactSumsByCodesSaid : Prop := fnExactSumsByCodesRow.holds Try.pinned (OpenSpec.ofChange fnExactSumsByCodesSpec)

/-- ITS FALSE NEIGHBOUR: 'it returns false'. Refute it at one input. -/
def fnExactSumsByCodesWrong : ChangeSpec := { name := "fnExactSumsByCodes", fn := fun _ => fun
  | [d] => { results := [.lit (.bool false)], args := [d] }
  | _ => none }
def FnExactSumsByCodesWrongFalsely : Prop := fnExactSumsByCodesRow.holds Try.pinned (OpenSpec.ofChange fnExactSumsByCodesWrong)

/-- 'laws.FnExactSumsBack': WHATEVER THE INPUT: true; the input reads as it did. -/
def fnExactSumsBackSpec : ChangeSpec := { name := "fnExactSumsBack", fn := fun _ => fun
  | [d] => { results := [.lit (.bool true)], args := [d] }
  | _ => none }
def fnExactSumsBackRow : OpenClaim := { program := "ytphbjfijipcpnaa", sum := "6776dd71bd19fbbc4e15e2f98b5bffc379d4924b312948ec3f4a8fdca9704b11", func := "loop.example/g01225/laws.FnExactSumsBack", spec := "fnExactSumsBack", unfollowed := true, recurses := true, apart := false }
def FnExactSumsBackSaid : Prop := fnExactSumsBackRow.holds Try.pinned (OpenSpec.ofChange fnExactSumsBackSpec)

/-- ITS FALSE NEIGHBOUR: 'it returns false'. Refute it at one input. -/
def fnExactSumsBackWrong : ChangeSpec := { name := "fnExactSumsBack", fn := fun _ => fun
  | [d] => { results := [.lit (.bool false)], args := [d] }
  | _ => none }
def FnExactSumsBackWrongFalsely : Prop := fnExactSumsBackRow.holds Try.pinned (OpenSpec.ofChange fnExactSumsBackWrong)

/-- 'laws.FnExactShadowOf': WHATEVER THE INPUT: true; the input reads as it did. -/
def fnExactShadowOfSpec : ChangeSpec := { name := "fnExactShadowOf", fn := fun _ => fun
  | [d] => { results := [.lit (.bool true)], args := [d] }
  | _ => none }
def fnExactShadowOfRow : OpenClaim := { program := "ytphbjfijipcpnaa", sum := "6776dd71bd19fbbc4e15e2f98b5bffc379d4924b312948ec3f4a8fdca9704b11", func := "loop.example/g01225/laws.FnExactShadowOf", spec := "fnExactShadowOf", unfollowed := true, recurses := true, apart := false }
def FnExactShadowOfSaid : Prop := fnExactShadowOfRow.holds Try.pinned (OpenSpec.ofChange fnExactShadowOfSpec)

/-- ITS FALSE NEIGHBOUR: 'it returns false'. Refute it at one input. -/
def fnExactShadowOfWrong : ChangeSpec := { name := "fnExactShadowOf", fn := fun _ => fun
  | [d] => { results := [.lit (.bool false)], args := [d] }
  | _ => none }
def FnExactShadowOfWrongFalsely : Prop := fnExactShadowOfRow.holds Try.pinned (OpenSpec.ofChange fnExactShadowOfWrong)

/-- 'laws.FnExactDecodeShadow': WHATEVER THE INPUT: true; the input reads as it did. -/
def fnExactDecodeShadowSpec : ChangeSpec := { name := "fnExactDecodeShadow", fn := fun _ => fun
  | [d] => { results := [.lit (.bool true)], args := [d] }
  | _ => none }
def fnExactDecodeShadowRow : OpenClaim := { program := "ytphbjfijipcpnaa", sum := "6776dd71bd19fbbc4e15e2f98b5bffc379d4924b312948ec3f4a8fdca9704b11", func := "loop.example/g01225/laws.FnExactDecodeShadow", spec := "fnExactDecodeShadow", unfollowed := true, recurses := true, apart := false }
def FnExactDecodeShadowSaid : Prop := fnExactDecodeShadowRow.holds Try.pinned (OpenSpec.ofChange fnExactDecodeShadowSpec)

/-- ITS FALSE NEIGHBOUR: 'it returns false'. Refute it at one input. -/
def fnExactDecodeShadowWrong : ChangeSpec := { name := "fnExactDecodeShadow", fn := fun _ => fun
  | [d] => { results := [.lit (.bool false)], args := [d] }
  | _ => none }
def FnExactDecodeShadowWrongFalsely : Prop := fnExactDecodeShadowRow.holds Try.pinned (OpenSpec.ofChange fnExactDecodeShadowWrong)

/-- 'laws.FnExactPictureOfSums': WHATEVER THE INPUT: true; the input reads as it did. -/
def fnExactPictureOfSumsSpec : ChangeSpec := { name := "fnExactPictureOfSums", fn := fun _ => fun
  | [d1, d2] => { results := [.lit (.bool true)], args := [d1, d2] }
  | _ => none }
def fnExactPictureOfSumsRow : OpenClaim := { program := "ytphbjfijipcpnaa", sum := "6776dd71bd19fbbc4e15e2f98b5bffc379d4924b312948ec3f4a8fdca9704b11", func := "loop.example/g01225/laws.FnExactPictureOfSums", spec := "fnExactPictureOfSums", unfollowed := true, recurses := true, apart := false }
def FnExactPictureOfSumsSaid : Prop := fnExactPictureOfSumsRow.holds Try.pinned (OpenSpec.ofChange fnExactPictureOfSumsSpec)

/-- ITS FALSE NEIGHBOUR: 'it returns false'. Refute it at one input. -/
def fnExactPictureOfSumsWrong : ChangeSpec := { name := "fnExactPictureOfSums", fn := fun _ => fun
  | [d1, d2] => { results := [.lit (.bool false)], args := [d1, d2] }
  | _ => none }
def FnExactPictureOfSumsWrongFalsely : Prop := fnExactPictureOfSumsRow.holds Try.pinned (OpenSpec.ofChange fnExactPictureOfSumsWrong)

/-- 'laws.FnExactInSteps': WHATEVER THE INPUT: true; the input reads as it did. -/
def fnExactInStepsSpec : ChangeSpec := { name := "fnExactInSteps", fn := fun _ => fun
  | [d1, d2, d3] => { results := [.lit (.bool true)], args := [d1, d2, d3] }
  | _ => none }
def fnExactInStepsRow : OpenClaim := { program := "ytphbjfijipcpnaa", sum := "6776dd71bd19fbbc4e15e2f98b5bffc379d4924b312948ec3f4a8fdca9704b11", func := "loop.example/g01225/laws.FnExactInSteps", spec := "fnExactInSteps", inPlace := ["math.archFloor", "math.Float64bits", "math.Float64frombits", "math.archTrunc"], unfollowed := true, recurses := true, apart := false }
def FnExactInStepsSaid : Prop := fnExactInStepsRow.holds Try.pinned (OpenSpec.ofChange fnExactInStepsSpec)

/-- ITS FALSE NEIGHBOUR: 'it returns false'. Refute it at one input. -/
def fnExactInStepsWrong : ChangeSpec := { name := "fnExactInSteps", fn := fun _ => fun
  | [d1, d2, d3] => { results := [.lit (.bool false)], args := [d1, d2, d3] }
  | _ => none }
def FnExactInStepsWrongFalsely : Prop := fnExactInStepsRow.holds Try.pinned (OpenSpec.ofChange fnExactInStepsWrong)

/- THE SECOND FORM. 'bulk': how many values and letters a reading holds, each counted each time it is reached (what is shared counts as often as it is met; a slice's spare places count too). A statement '..UptoSaid' is the law's where the arguments, and the package variables that the reading takes, are together of bulk at most 1048576: NARROWER than '..Said'. Prove '..Said' where nothing that the law and all that it calls make is longer than what came in: it says more and counts as full. Else prove '..UptoSaid'. A law counts once. -/
mutual
def uptoBulk {H : Type} : DataW H → Nat
  | .lit (.string bytes) => bytes.length + 1
  | .lit _ => 1
  | .nil => 1
  | .ptr d => uptoBulk d + 1
  | .slice elems spare => uptoBulkAll elems + uptoBulkAll spare + 1
  | .agg parts => uptoBulkAll parts + 1
  | .iface _ d => uptoBulk d + 1
  | .map entries => uptoBulkEntries entries + 1
  | .held _ => 1
def uptoBulkAll {H : Type} : List (DataW H) → Nat
  | [] => 0
  | d :: r => uptoBulk d + uptoBulkAll r
def uptoBulkEntries {H : Type} : List (Lit × DataW H) → Nat
  | [] => 0
  | x :: r => uptoBulkEntry x + uptoBulkEntries r
def uptoBulkEntry {H : Type} : Lit × DataW H → Nat
  | (.string bytes, d) => bytes.length + uptoBulk d + 1
  | (_, d) => uptoBulk d + 1
 end
def uptoSmall : (H : Type) → List (DataW H) → Bool := fun _ ds => decide (uptoBulkAll ds ≤ 1048576)
def OpenSpec.upto (s : _root_.Go.ChangeSpec) : _root_.Go.OpenSpec := { _root_.Go.OpenSpec.ofChange s with cond := some uptoSmall }

/-- 'laws.FnExactCorrelateLists', WHERE WHAT IT READS IS OF BULK AT MOST 1048576: true; the input reads as it did. -/
def fnExactCorrelateListsUptoRow : OpenClaim := { program := "ytphbjfijipcpnaa", sum := "6776dd71bd19fbbc4e15e2f98b5bffc379d4924b312948ec3f4a8fdca9704b11", func := "loop.example/g01225/laws.FnExactCorrelateLists", spec := "fnExactCorrelateLists", unfollowed := true, recurses := true, apart := false, narrowed := true }
def FnExactCorrelateListsUptoSaid : Prop := fnExactCorrelateListsUptoRow.holds Try.pinned (OpenSpec.upto fnExactCorrelateListsSpec)

/-- 'laws.FnExactNormPicture', WHERE WHAT IT READS IS OF BULK AT MOST 1048576: true; the input reads as it did. -/
def fnExactNormPictureUptoRow : OpenClaim := { program := "ytphbjfijipcpnaa", sum := "6776dd71bd19fbbc4e15e2f98b5bffc379d4924b312948ec3f4a8fdca9704b11", func := "loop.example/g01225/laws.FnExactNormPicture", spec := "fnExactNormPicture", unfollowed := true, recurses := true, apart := false, narrowed := true }
def FnExactNormPictureUptoSaid : Prop := fnExactNormPictureUptoRow.holds Try.pinned (OpenSpec.upto fnExactNormPictureSpec)

/-- 'laws.FnExactHalftoneOf', WHERE WHAT IT READS IS OF BULK AT MOST 1048576: true; the input reads as it did. -/
def fnExactHalftoneOfUptoRow : OpenClaim := { program := "ytphbjfijipcpnaa", sum := "6776dd71bd19fbbc4e15e2f98b5bffc379d4924b312948ec3f4a8fdca9704b11", func := "loop.example/g01225/laws.FnExactHalftoneOf", spec := "fnExactHalftoneOf", unfollowed := true, recurses := true, apart := false, narrowed := true }
def FnExactHalftoneOfUptoSaid : Prop := fnExactHalftoneOfUptoRow.holds Try.pinned (OpenSpec.upto fnExactHalftoneOfSpec)

/-- 'laws.FnExactSumsByCodes', WHERE WHAT IT READS IS OF BULK AT MOST 1048576: true; the input reads as it did. -/
def fnExactSumsByCodesUptoRow : OpenClaim := { program := "ytphbjfijipcpnaa", sum := "6776dd71bd19fbbc4e15e2f98b5bffc379d4924b312948ec3f4a8fdca9704b11", func := "loop.example/g01225/laws.FnExactSumsByCodes", spec := "fnExactSumsByCodes", unfollowed := true, recurses := true, apart := false, narrowed := true }
def FnExactSumsByCodesUptoSaid : Prop := fnExactSumsByCodesUptoRow.holds Try.pinned (OpenSpec.upto fnExactSumsByCodesSpec)

/-- 'laws.FnExactSumsBack', WHERE WHAT IT READS IS OF BULK AT MOST 1048576: true; the input reads as it did. -/
def fnExactSumsBackUptoRow : OpenClaim := { program := "ytphbjfijipcpnaa", sum := "6776dd71bd19fbbc4e15e2f98b5bffc379d4924b312948ec3f4a8fdca9704b11", func := "loop.example/g01225/laws.FnExactSumsBack", spec := "fnExactSumsBack", unfollowed := true, recurses := true, apart := false, narrowed := true }
def FnExactSumsBackUptoSaid : Prop := fnExactSumsBackUptoRow.holds Try.pinned (OpenSpec.upto fnExactSumsBackSpec)

/-- 'laws.FnExactShadowOf', WHERE WHAT IT READS IS OF BULK AT MOST 1048576: true; the input reads as it did. -/
def fnExactShadowOfUptoRow : OpenClaim := { program := "ytphbjfijipcpnaa", sum := "6776dd71bd19fbbc4e15e2f98b5bffc379d4924b312948ec3f4a8fdca9704b11", func := "loop.example/g01225/laws.FnExactShadowOf", spec := "fnExactShadowOf", unfollowed := true, recurses := true, apart := false, narrowed := true }
def FnExactShadowOfUptoSaid : Prop := fnExactShadowOfUptoRow.holds Try.pinned (OpenSpec.upto fnExactShadowOfSpec)

/-- 'laws.FnExactDecodeShadow', WHERE WHAT IT READS IS OF BULK AT MOST 1048576: true; the input reads as it did. -/
def fnExactDecodeShadowUptoRow : OpenClaim := { program := "ytphbjfijipcpnaa", sum := "6776dd71bd19fbbc4e15e2f98b5bffc379d4924b312948ec3f4a8fdca9704b11", func := "loop.example/g01225/laws.FnExactDecodeShadow", spec := "fnExactDecodeShadow", unfollowed := true, recurses := true, apart := false, narrowed := true }
def FnExactDecodeShadowUptoSaid : Prop := fnExactDecodeShadowUptoRow.holds Try.pinned (OpenSpec.upto fnExactDecodeShadowSpec)

/-- 'laws.FnExactPictureOfSums', WHERE WHAT IT READS IS OF BULK AT MOST 1048576: true; the input reads as it did. -/
def fnExactPictureOfSumsUptoRow : OpenClaim := { program := "ytphbjfijipcpnaa", sum := "6776dd71bd19fbbc4e15e2f98b5bffc379d4924b312948ec3f4a8fdca9704b11", func := "loop.example/g01225/laws.FnExactPictureOfSums", spec := "fnExactPictureOfSums", unfollowed := true, recurses := true, apart := false, narrowed := true }
def FnExactPictureOfSumsUptoSaid : Prop := fnExactPictureOfSumsUptoRow.holds Try.pinned (OpenSpec.upto fnExactPictureOfSumsSpec)

/-- 'laws.FnExactInSteps', WHERE WHAT IT READS IS OF BULK AT MOST 1048576: true; the input reads as it did. -/
def fnExactInStepsUptoRow : OpenClaim := { program := "ytphbjfijipcpnaa", sum := "6776dd71bd19fbbc4e15e2f98b5bffc379d4924b312948ec3f4a8fdca9704b11", func := "loop.example/g01225/laws.FnExactInSteps", spec := "fnExactInSteps", inPlace := ["math.archFloor", "math.Float64bits", "math.Float64frombits", "math.archTrunc"], unfollowed := true, recurses := true, apart := false, narrowed := true }
def FnExactInStepsUptoSaid : Prop := fnExactInStepsUptoRow.holds Try.pinned (OpenSpec.upto fnExactInStepsSpec)

end Rows
end Go.Proofs.Ytphbjfijipcpnaa
