/-
  No cell of these rows narrows 'for every input' (looked for: loops, veiled, ifaces, maps, wideKeys, modest, calm, conditions, laid).
  DERIVED. THE GIVEN ROWS OF THIS SEAT. 12 by the template 'for every input the law returns true; each argument reads behind the call as it read before'; 0 by the template 'total and deterministic' (their statements: YtlipoonopajgdaaTotals.lean).
  GIVEN WITH THE SEED: the statements are not yours to turn. If you find one false, say at which input.
  Laid BY PROGRAM, IN A SANDBOX (cutbox-rows.mjs): the forced cells as the released guide's own fill.sh prints them over the translation ca0d7e7f0ee83650… (all of the seat's roots in one cut). By AI agents, Wed Nov 11 2026. No macro, syntax, notation, axiom, sorry.
-/
import Derived.Test.YtlipoonopajgdaaChecked
import GoSem.Claim
import GoSem.ClaimJoined
import GoSem.ClaimMapViews
import Derived.JoinedTies
import Derived.KernelRfl
namespace Go.Proofs.Ytlipoonopajgdaa
/- THE CELL 'sum', in the pinned program and in every row, IS THE sha256 OF THE DUMP (.gsa) THAT YtlipoonopajgdaaProg.lean LOADS. Nothing in Lean hashes anything: it is a label: what it is worth is what the hold of that sum in a sandbox is worth. -/
noncomputable def Try.pinned : Pinned := { name := "ytlipoonopajgdaa", sum := "ca0d7e7f0ee8365031464e4189a95b9f56a73ce6af3b6ceda3de11a53ca085c4", checked := Try.checked }
namespace Rows
def none {H : Type} : Left H := { results := [], args := [] }

/-- 'laws.FnCoded': WHATEVER THE INPUT: true; the input reads as it did. -/
def fnCodedSpec : ChangeSpec := { name := "fnCoded", fn := fun _ => fun
  | [d1, d2] => { results := [.lit (.bool true)], args := [d1, d2] }
  | _ => none }
def fnCodedRow : OpenClaim := { program := "ytlipoonopajgdaa", sum := "ca0d7e7f0ee8365031464e4189a95b9f56a73ce6af3b6ceda3de11a53ca085c4", func := "loop.example/g01105/laws.FnCoded", spec := "fnCoded", apart := false }
def FnCodedSaid : Prop := fnCodedRow.holds Try.pinned (OpenSpec.ofChange fnCodedSpec)

/-- ITS FALSE NEIGHBOUR: 'it returns false'. Refute it at one input. -/
def fnCodedWrong : ChangeSpec := { name := "fnCoded", fn := fun _ => fun
  | [d1, d2] => { results := [.lit (.bool false)], args := [d1, d2] }
  | _ => none }
def FnCodedWrongFalsely : Prop := fnCodedRow.holds Try.pinned (OpenSpec.ofChange fnCodedWrong)

/-- 'laws.FnExactIsProof': WHATEVER THE INPUT: true; the input reads as it did. -/
def fnExactIsProofSpec : ChangeSpec := { name := "fnExactIsProof", fn := fun _ => fun
  | [d] => { results := [.lit (.bool true)], args := [d] }
  | _ => none }
def fnExactIsProofRow : OpenClaim := { program := "ytlipoonopajgdaa", sum := "ca0d7e7f0ee8365031464e4189a95b9f56a73ce6af3b6ceda3de11a53ca085c4", func := "loop.example/g01105/laws.FnExactIsProof", spec := "fnExactIsProof", recurses := true, apart := false }
def FnExactIsProofSaid : Prop := fnExactIsProofRow.holds Try.pinned (OpenSpec.ofChange fnExactIsProofSpec)

/-- ITS FALSE NEIGHBOUR: 'it returns false'. Refute it at one input. -/
def fnExactIsProofWrong : ChangeSpec := { name := "fnExactIsProof", fn := fun _ => fun
  | [d] => { results := [.lit (.bool false)], args := [d] }
  | _ => none }
def FnExactIsProofWrongFalsely : Prop := fnExactIsProofRow.holds Try.pinned (OpenSpec.ofChange fnExactIsProofWrong)

/-- 'laws.FnExactDepthOf': WHATEVER THE INPUT: true; the input reads as it did. -/
def fnExactDepthOfSpec : ChangeSpec := { name := "fnExactDepthOf", fn := fun _ => fun
  | [d] => { results := [.lit (.bool true)], args := [d] }
  | _ => none }
def fnExactDepthOfRow : OpenClaim := { program := "ytlipoonopajgdaa", sum := "ca0d7e7f0ee8365031464e4189a95b9f56a73ce6af3b6ceda3de11a53ca085c4", func := "loop.example/g01105/laws.FnExactDepthOf", spec := "fnExactDepthOf", recurses := true, apart := false }
def FnExactDepthOfSaid : Prop := fnExactDepthOfRow.holds Try.pinned (OpenSpec.ofChange fnExactDepthOfSpec)

/-- ITS FALSE NEIGHBOUR: 'it returns false'. Refute it at one input. -/
def fnExactDepthOfWrong : ChangeSpec := { name := "fnExactDepthOf", fn := fun _ => fun
  | [d] => { results := [.lit (.bool false)], args := [d] }
  | _ => none }
def FnExactDepthOfWrongFalsely : Prop := fnExactDepthOfRow.holds Try.pinned (OpenSpec.ofChange fnExactDepthOfWrong)

/-- 'laws.FnExactValidAnnotated': WHATEVER THE INPUT: true; the input reads as it did. -/
def fnExactValidAnnotatedSpec : ChangeSpec := { name := "fnExactValidAnnotated", fn := fun _ => fun
  | [d] => { results := [.lit (.bool true)], args := [d] }
  | _ => none }
def fnExactValidAnnotatedRow : OpenClaim := { program := "ytlipoonopajgdaa", sum := "ca0d7e7f0ee8365031464e4189a95b9f56a73ce6af3b6ceda3de11a53ca085c4", func := "loop.example/g01105/laws.FnExactValidAnnotated", spec := "fnExactValidAnnotated", unfollowed := true, recurses := true, apart := false }
def FnExactValidAnnotatedSaid : Prop := fnExactValidAnnotatedRow.holds Try.pinned (OpenSpec.ofChange fnExactValidAnnotatedSpec)

/-- ITS FALSE NEIGHBOUR: 'it returns false'. Refute it at one input. -/
def fnExactValidAnnotatedWrong : ChangeSpec := { name := "fnExactValidAnnotated", fn := fun _ => fun
  | [d] => { results := [.lit (.bool false)], args := [d] }
  | _ => none }
def FnExactValidAnnotatedWrongFalsely : Prop := fnExactValidAnnotatedRow.holds Try.pinned (OpenSpec.ofChange fnExactValidAnnotatedWrong)

/-- 'laws.FnExactIsBody': WHATEVER THE INPUT: true; the input reads as it did. -/
def fnExactIsBodySpec : ChangeSpec := { name := "fnExactIsBody", fn := fun _ => fun
  | [d] => { results := [.lit (.bool true)], args := [d] }
  | _ => none }
def fnExactIsBodyRow : OpenClaim := { program := "ytlipoonopajgdaa", sum := "ca0d7e7f0ee8365031464e4189a95b9f56a73ce6af3b6ceda3de11a53ca085c4", func := "loop.example/g01105/laws.FnExactIsBody", spec := "fnExactIsBody", unfollowed := true, recurses := true, apart := false }
def FnExactIsBodySaid : Prop := fnExactIsBodyRow.holds Try.pinned (OpenSpec.ofChange fnExactIsBodySpec)

/-- ITS FALSE NEIGHBOUR: 'it returns false'. Refute it at one input. -/
def fnExactIsBodyWrong : ChangeSpec := { name := "fnExactIsBody", fn := fun _ => fun
  | [d] => { results := [.lit (.bool false)], args := [d] }
  | _ => none }
def FnExactIsBodyWrongFalsely : Prop := fnExactIsBodyRow.holds Try.pinned (OpenSpec.ofChange fnExactIsBodyWrong)

/-- 'laws.FnExactEndOf': WHATEVER THE INPUT: true; the input reads as it did. -/
def fnExactEndOfSpec : ChangeSpec := { name := "fnExactEndOf", fn := fun _ => fun
  | [d1, d2] => { results := [.lit (.bool true)], args := [d1, d2] }
  | _ => none }
def fnExactEndOfRow : OpenClaim := { program := "ytlipoonopajgdaa", sum := "ca0d7e7f0ee8365031464e4189a95b9f56a73ce6af3b6ceda3de11a53ca085c4", func := "loop.example/g01105/laws.FnExactEndOf", spec := "fnExactEndOf", unfollowed := true, recurses := true, apart := false }
def FnExactEndOfSaid : Prop := fnExactEndOfRow.holds Try.pinned (OpenSpec.ofChange fnExactEndOfSpec)

/-- ITS FALSE NEIGHBOUR: 'it returns false'. Refute it at one input. -/
def fnExactEndOfWrong : ChangeSpec := { name := "fnExactEndOf", fn := fun _ => fun
  | [d1, d2] => { results := [.lit (.bool false)], args := [d1, d2] }
  | _ => none }
def FnExactEndOfWrongFalsely : Prop := fnExactEndOfRow.holds Try.pinned (OpenSpec.ofChange fnExactEndOfWrong)

/-- 'laws.FnExactLeastCounter': WHATEVER THE INPUT: true; the input reads as it did. -/
def fnExactLeastCounterSpec : ChangeSpec := { name := "fnExactLeastCounter", fn := fun _ => fun
  | [d1, d2] => { results := [.lit (.bool true)], args := [d1, d2] }
  | _ => none }
def fnExactLeastCounterRow : OpenClaim := { program := "ytlipoonopajgdaa", sum := "ca0d7e7f0ee8365031464e4189a95b9f56a73ce6af3b6ceda3de11a53ca085c4", func := "loop.example/g01105/laws.FnExactLeastCounter", spec := "fnExactLeastCounter", unfollowed := true, recurses := true, apart := false }
def FnExactLeastCounterSaid : Prop := fnExactLeastCounterRow.holds Try.pinned (OpenSpec.ofChange fnExactLeastCounterSpec)

/-- ITS FALSE NEIGHBOUR: 'it returns false'. Refute it at one input. -/
def fnExactLeastCounterWrong : ChangeSpec := { name := "fnExactLeastCounter", fn := fun _ => fun
  | [d1, d2] => { results := [.lit (.bool false)], args := [d1, d2] }
  | _ => none }
def FnExactLeastCounterWrongFalsely : Prop := fnExactLeastCounterRow.holds Try.pinned (OpenSpec.ofChange fnExactLeastCounterWrong)

/-- 'laws.FnExactValidProgram': WHATEVER THE INPUT: true; the input reads as it did. -/
def fnExactValidProgramSpec : ChangeSpec := { name := "fnExactValidProgram", fn := fun _ => fun
  | [d] => { results := [.lit (.bool true)], args := [d] }
  | _ => none }
def fnExactValidProgramRow : OpenClaim := { program := "ytlipoonopajgdaa", sum := "ca0d7e7f0ee8365031464e4189a95b9f56a73ce6af3b6ceda3de11a53ca085c4", func := "loop.example/g01105/laws.FnExactValidProgram", spec := "fnExactValidProgram", unfollowed := true, recurses := true, apart := false }
def FnExactValidProgramSaid : Prop := fnExactValidProgramRow.holds Try.pinned (OpenSpec.ofChange fnExactValidProgramSpec)

/-- ITS FALSE NEIGHBOUR: 'it returns false'. Refute it at one input. -/
def fnExactValidProgramWrong : ChangeSpec := { name := "fnExactValidProgram", fn := fun _ => fun
  | [d] => { results := [.lit (.bool false)], args := [d] }
  | _ => none }
def FnExactValidProgramWrongFalsely : Prop := fnExactValidProgramRow.holds Try.pinned (OpenSpec.ofChange fnExactValidProgramWrong)

/-- 'laws.FnExactTargetsOf': WHATEVER THE INPUT: true; the input reads as it did. -/
def fnExactTargetsOfSpec : ChangeSpec := { name := "fnExactTargetsOf", fn := fun _ => fun
  | [d1, d2] => { results := [.lit (.bool true)], args := [d1, d2] }
  | _ => none }
def fnExactTargetsOfRow : OpenClaim := { program := "ytlipoonopajgdaa", sum := "ca0d7e7f0ee8365031464e4189a95b9f56a73ce6af3b6ceda3de11a53ca085c4", func := "loop.example/g01105/laws.FnExactTargetsOf", spec := "fnExactTargetsOf", unfollowed := true, recurses := true, apart := false }
def FnExactTargetsOfSaid : Prop := fnExactTargetsOfRow.holds Try.pinned (OpenSpec.ofChange fnExactTargetsOfSpec)

/-- ITS FALSE NEIGHBOUR: 'it returns false'. Refute it at one input. -/
def fnExactTargetsOfWrong : ChangeSpec := { name := "fnExactTargetsOf", fn := fun _ => fun
  | [d1, d2] => { results := [.lit (.bool false)], args := [d1, d2] }
  | _ => none }
def FnExactTargetsOfWrongFalsely : Prop := fnExactTargetsOfRow.holds Try.pinned (OpenSpec.ofChange fnExactTargetsOfWrong)

/-- 'laws.FnExactReachableCode': WHATEVER THE INPUT: true; the input reads as it did. -/
def fnExactReachableCodeSpec : ChangeSpec := { name := "fnExactReachableCode", fn := fun _ => fun
  | [d] => { results := [.lit (.bool true)], args := [d] }
  | _ => none }
def fnExactReachableCodeRow : OpenClaim := { program := "ytlipoonopajgdaa", sum := "ca0d7e7f0ee8365031464e4189a95b9f56a73ce6af3b6ceda3de11a53ca085c4", func := "loop.example/g01105/laws.FnExactReachableCode", spec := "fnExactReachableCode", unfollowed := true, recurses := true, apart := false }
def FnExactReachableCodeSaid : Prop := fnExactReachableCodeRow.holds Try.pinned (OpenSpec.ofChange fnExactReachableCodeSpec)

/-- ITS FALSE NEIGHBOUR: 'it returns false'. Refute it at one input. -/
def fnExactReachableCodeWrong : ChangeSpec := { name := "fnExactReachableCode", fn := fun _ => fun
  | [d] => { results := [.lit (.bool false)], args := [d] }
  | _ => none }
def FnExactReachableCodeWrongFalsely : Prop := fnExactReachableCodeRow.holds Try.pinned (OpenSpec.ofChange fnExactReachableCodeWrong)

/-- 'laws.FnExactStackHeights': WHATEVER THE INPUT: true; the input reads as it did. -/
def fnExactStackHeightsSpec : ChangeSpec := { name := "fnExactStackHeights", fn := fun _ => fun
  | [d] => { results := [.lit (.bool true)], args := [d] }
  | _ => none }
def fnExactStackHeightsRow : OpenClaim := { program := "ytlipoonopajgdaa", sum := "ca0d7e7f0ee8365031464e4189a95b9f56a73ce6af3b6ceda3de11a53ca085c4", func := "loop.example/g01105/laws.FnExactStackHeights", spec := "fnExactStackHeights", unfollowed := true, recurses := true, apart := false }
def FnExactStackHeightsSaid : Prop := fnExactStackHeightsRow.holds Try.pinned (OpenSpec.ofChange fnExactStackHeightsSpec)

/-- ITS FALSE NEIGHBOUR: 'it returns false'. Refute it at one input. -/
def fnExactStackHeightsWrong : ChangeSpec := { name := "fnExactStackHeights", fn := fun _ => fun
  | [d] => { results := [.lit (.bool false)], args := [d] }
  | _ => none }
def FnExactStackHeightsWrongFalsely : Prop := fnExactStackHeightsRow.holds Try.pinned (OpenSpec.ofChange fnExactStackHeightsWrong)

/-- 'laws.FnExactRefuteFacts': WHATEVER THE INPUT: true; the input reads as it did. -/
def fnExactRefuteFactsSpec : ChangeSpec := { name := "fnExactRefuteFacts", fn := fun _ => fun
  | [d] => { results := [.lit (.bool true)], args := [d] }
  | _ => none }
def fnExactRefuteFactsRow : OpenClaim := { program := "ytlipoonopajgdaa", sum := "ca0d7e7f0ee8365031464e4189a95b9f56a73ce6af3b6ceda3de11a53ca085c4", func := "loop.example/g01105/laws.FnExactRefuteFacts", spec := "fnExactRefuteFacts", apart := false }
def FnExactRefuteFactsSaid : Prop := fnExactRefuteFactsRow.holds Try.pinned (OpenSpec.ofChange fnExactRefuteFactsSpec)

/-- ITS FALSE NEIGHBOUR: 'it returns false'. Refute it at one input. -/
def fnExactRefuteFactsWrong : ChangeSpec := { name := "fnExactRefuteFacts", fn := fun _ => fun
  | [d] => { results := [.lit (.bool false)], args := [d] }
  | _ => none }
def FnExactRefuteFactsWrongFalsely : Prop := fnExactRefuteFactsRow.holds Try.pinned (OpenSpec.ofChange fnExactRefuteFactsWrong)

/- THE SECOND FORM. 'bulk': how many values and letters a reading holds, each counted each time it is reached (what is shared counts as often as it is met; a slice's spare places count too). A statement '..UptoSaid' is the law's where the arguments, and the package variables that the reading takes, are together of bulk at most 1048576: NARROWER than '..Said'. Prove '..Said' where nothing that the law and all that it calls make is longer than what came in: it says more and counts as full. Else prove '..UptoSaid'. A law counts once. -/
mutual
def uptoBulk {H : Type} : DataW H → Nat
  | .lit (.string bytes) => bytes.length + 1
  | .lit _ => 1
  | .nil => 1
  | .ptr d => uptoBulk d + 1
  | .slice elems spare => uptoBulkAll elems + uptoBulkAll spare + 1
  | .agg parts => uptoBulkAll parts + 1
  | .iface _ d => uptoBulk d + 1
  | .map entries => uptoBulkEntries entries + 1
  | .held _ => 1
def uptoBulkAll {H : Type} : List (DataW H) → Nat
  | [] => 0
  | d :: r => uptoBulk d + uptoBulkAll r
def uptoBulkEntries {H : Type} : List (Lit × DataW H) → Nat
  | [] => 0
  | x :: r => uptoBulkEntry x + uptoBulkEntries r
def uptoBulkEntry {H : Type} : Lit × DataW H → Nat
  | (.string bytes, d) => bytes.length + uptoBulk d + 1
  | (_, d) => uptoBulk d + 1
 end
def uptoSmall : (H : Type) → List (DataW H) → Bool := fun _ ds => decide (uptoBulkAll ds ≤ 1048576)
def OpenSpec.upto (s : _root_.Go.ChangeSpec) : _root_.Go.OpenSpec := { _root_.Go.OpenSpec.ofChange s with cond := some uptoSmall }

/-- 'laws.FnCoded', WHERE WHAT IT READS IS OF BULK AT MOST 1048576: true; the input reads as it did. -/
def fnCodedUptoRow : OpenClaim := { program := "ytlipoonopajgdaa", sum := "ca0d7e7f0ee8365031464e4189a95b9f56a73ce6af3b6ceda3de11a53ca085c4", func := "loop.example/g01105/laws.FnCoded", spec := "fnCoded", apart := false, narrowed := true }
def FnCodedUptoSaid : Prop := fnCodedUptoRow.holds Try.pinned (OpenSpec.upto fnCodedSpec)

/-- 'laws.FnExactIsProof', WHERE WHAT IT READS IS OF BULK AT MOST 1048576: true; the input reads as it did. -/
def fnExactIsProofUptoRow : OpenClaim := { program := "ytlipoonopajgdaa", sum := "ca0d7e7f0ee8365031464e4189a95b9f56a73ce6af3b6ceda3de11a53ca085c4", func := "loop.example/g01105/laws.FnExactIsProof", spec := "fnExactIsProof", recurses := true, apart := false, narrowed := true }
def FnExactIsProofUptoSaid : Prop := fnExactIsProofUptoRow.holds Try.pinned (OpenSpec.upto fnExactIsProofSpec)

/-- 'laws.FnExactDepthOf', WHERE WHAT IT READS IS OF BULK AT MOST 1048576: true; the input reads as it did. -/
def fnExactDepthOfUptoRow : OpenClaim := { program := "ytlipoonopajgdaa", sum := "ca0d7e7f0ee8365031464e4189a95b9f56a73ce6af3b6ceda3de11a53ca085c4", func := "loop.example/g01105/laws.FnExactDepthOf", spec := "fnExactDepthOf", recurses := true, apart := false, narrowed := true }
def FnExactDepthOfUptoSaid : Prop := fnExactDepthOfUptoRow.holds Try.pinned (OpenSpec.upto fnExactDepthOfSpec)

/-- 'laws.FnExactValidAnnotated', WHERE WHAT IT READS IS OF BULK AT MOST 1048576: true; the input reads as it did. -/
def fnExactValidAnnotatedUptoRow : OpenClaim := { program := "ytlipoonopajgdaa", sum := "ca0d7e7f0ee8365031464e4189a95b9f56a73ce6af3b6ceda3de11a53ca085c4", func := "loop.example/g01105/laws.FnExactValidAnnotated", spec := "fnExactValidAnnotated", unfollowed := true, recurses := true, apart := false, narrowed := true }
def FnExactValidAnnotatedUptoSaid : Prop := fnExactValidAnnotatedUptoRow.holds Try.pinned (OpenSpec.upto fnExactValidAnnotatedSpec)

/-- 'laws.FnExactIsBody', WHERE WHAT IT READS IS OF BULK AT MOST 1048576: true; the input reads as it did. -/
def fnExactIsBodyUptoRow : OpenClaim := { program := "ytlipoonopajgdaa", sum := "ca0d7e7f0ee8365031464e4189a95b9f56a73ce6af3b6ceda3de11a53ca085c4", func := "loop.example/g01105/laws.FnExactIsBody", spec := "fnExactIsBody", unfollowed := true, recurses := true, apart := false, narrowed := true }
def FnExactIsBodyUptoSaid : Prop := fnExactIsBodyUptoRow.holds Try.pinned (OpenSpec.upto fnExactIsBodySpec)

/-- 'laws.FnExactEndOf', WHERE WHAT IT READS IS OF BULK AT MOST 1048576: true; the input reads as it did. -/
def fnExactEndOfUptoRow : OpenClaim := { program := "ytlipoonopajgdaa", sum := "ca0d7e7f0ee8365031464e4189a95b9f56a73ce6af3b6ceda3de11a53ca085c4", func := "loop.example/g01105/laws.FnExactEndOf", spec := "fnExactEndOf", unfollowed := true, recurses := true, apart := false, narrowed := true }
def FnExactEndOfUptoSaid : Prop := fnExactEndOfUptoRow.holds Try.pinned (OpenSpec.upto fnExactEndOfSpec)

/-- 'laws.FnExactLeastCounter', WHERE WHAT IT READS IS OF BULK AT MOST 1048576: true; the input reads as it did. -/
def fnExactLeastCounterUptoRow : OpenClaim := { program := "ytlipoonopajgdaa", sum := "ca0d7e7f0ee8365031464e4189a95b9f56a73ce6af3b6ceda3de11a53ca085c4", func := "loop.example/g01105/laws.FnExactLeastCounter", spec := "fnExactLeastCounter", unfollowed := true, recurses := true, apart := false, narrowed := true }
def FnExactLeastCounterUptoSaid : Prop := fnExactLeastCounterUptoRow.holds Try.pinned (OpenSpec.upto fnExactLeastCounterSpec)

/-- 'laws.FnExactValidProgram', WHERE WHAT IT READS IS OF BULK AT MOST 1048576: true; the input reads as it did. -/
def fnExactValidProgramUptoRow : OpenClaim := { program := "ytlipoonopajgdaa", sum := "ca0d7e7f0ee8365031464e4189a95b9f56a73ce6af3b6ceda3de11a53ca085c4", func := "loop.example/g01105/laws.FnExactValidProgram", spec := "fnExactValidProgram", unfollowed := true, recurses := true, apart := false, narrowed := true }
def FnExactValidProgramUptoSaid : Prop := fnExactValidProgramUptoRow.holds Try.pinned (OpenSpec.upto fnExactValidProgramSpec)

/-- 'laws.FnExactTargetsOf', WHERE WHAT IT READS IS OF BULK AT MOST 1048576: true; the input reads as it did. -/
def fnExactTargetsOfUptoRow : OpenClaim := { program := "ytlipoonopajgdaa", sum := "ca0d7e7f0ee8365031464e4189a95b9f56a73ce6af3b6ceda3de11a53ca085c4", func := "loop.example/g01105/laws.FnExactTargetsOf", spec := "fnExactTargetsOf", unfollowed := true, recurses := true, apart := false, narrowed := true }
def FnExactTargetsOfUptoSaid : Prop := fnExactTargetsOfUptoRow.holds Try.pinned (OpenSpec.upto fnExactTargetsOfSpec)

/-- 'laws.FnExactReachableCode', WHERE WHAT IT READS IS OF BULK AT MOST 1048576: true; the input reads as it did. -/
def fnExactReachableCodeUptoRow : OpenClaim := { program := "ytlipoonopajgdaa", sum := "ca0d7e7f0ee8365031464e4189a95b9f56a73ce6af3b6ceda3de11a53ca085c4", func := "loop.example/g01105/laws.FnExactReachableCode", spec := "fnExactReachableCode", unfollowed := true, recurses := true, apart := false, narrowed := true }
def FnExactReachableCodeUptoSaid : Prop := fnExactReachableCodeUptoRow.holds Try.pinned (OpenSpec.upto fnExactReachableCodeSpec)

/-- 'laws.FnExactStackHeights', WHERE WHAT IT READS IS OF BULK AT MOST 1048576: true; the input reads as it did. -/
def fnExactStackHeightsUptoRow : OpenClaim := { program := "ytlipoonopajgdaa", sum := "ca0d7e7f0ee8365031464e4189a95b9f56a73ce6af3b6ceda3de11a53ca085c4", func := "loop.example/g01105/laws.FnExactStackHeights", spec := "fnExactStackHeights", unfollowed := true, recurses := true, apart := false, narrowed := true }
def FnExactStackHeightsUptoSaid : Prop := fnExactStackHeightsUptoRow.holds Try.pinned (OpenSpec.upto fnExactStackHeightsSpec)

/-- 'laws.FnExactRefuteFacts', WHERE WHAT IT READS IS OF BULK AT MOST 1048576: true; the input reads as it did. -/
def fnExactRefuteFactsUptoRow : OpenClaim := { program := "ytlipoonopajgdaa", sum := "ca0d7e7f0ee8365031464e4189a95b9f56a73ce6af3b6ceda3de11a53ca085c4", func := "loop.example/g01105/laws.FnExactRefuteFacts", spec := "fnExactRefuteFacts", apart := false, narrowed := true }
def FnExactRefuteFactsUptoSaid : Prop := fnExactRefuteFactsUptoRow.holds Try.pinned (OpenSpec.upto fnExactRefuteFactsSpec)

end Rows
end Go.Proofs.Ytlipoonopajgdaa
