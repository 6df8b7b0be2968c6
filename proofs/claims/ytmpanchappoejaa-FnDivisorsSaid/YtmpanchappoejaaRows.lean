/-
  No cell of these rows narrows 'for every input' (looked for: loops, veiled, ifaces, maps, wideKeys, modest, calm, conditions, laid).
  DERIVED. THE GIVEN ROWS OF THIS SEAT. 11 by the template 'for every input the law returns true; each argument reads behind the call as it read before'; 0 by the template 'total and deterministic' (their statements: YtmpanchappoejaaTotals.lean).
  GIVEN WITH THE SEED: the statements are not yours to turn. If you find one false, say at which input.
  Laid BY PROGRAM, IN A SANDBOX (cutbox-rows.mjs): the forced cells as the released guide's own fill.sh prints them over the translation 7ee55832f9f1d438… (all of the seat's roots in one cut). By AI agents, Wed Nov 11 2026. No macro, syntax, notation, axiom, sorry.
-/
import Derived.Test.YtmpanchappoejaaChecked
import GoSem.Claim
import GoSem.ClaimJoined
import GoSem.ClaimMapViews
import Derived.JoinedTies
import Derived.KernelRfl
namespace Go.Proofs.Ytmpanchappoejaa
/- THE CELL 'sum', in the pinned program and in every row, IS THE sha256 OF THE DUMP (.gsa) THAT YtmpanchappoejaaProg.lean LOADS. Nothing in Lean hashes anything: it is a label: what it is worth is what the hold of that sum in a sandbox is worth. -/
noncomputable def Try.pinned : Pinned := { name := "ytmpanchappoejaa", sum := "7ee55832f9f1d43811f35d0d27c4c5a1e101dd80cff3ae9bac24b518918a62c8", checked := Try.checked }
namespace Rows
def none {H : Type} : Left H := { results := [], args := [] }

/-- 'laws.FnDivisors': WHATEVER THE INPUT: true; the input reads as it did. -/
def fnDivisorsSpec : ChangeSpec := { name := "fnDivisors", fn := fun _ => fun
  | [d1, d2] => { results := [.lit (.bool true)], args := [d1, d2] }
  | _ => none }
def fnDivisorsRow : OpenClaim := { program := "ytmpanchappoejaa", sum := "7ee55832f9f1d43811f35d0d27c4c5a1e101dd80cff3ae9bac24b518918a62c8", func := "loop.example/g01105/laws.FnDivisors", spec := "fnDivisors", apart := false }
def FnDivisorsSaid : Prop := fnDivisorsRow.holds Try.pinned (OpenSpec.ofChange fnDivisorsSpec)

/-- ITS FALSE NEIGHBOUR: 'it returns false'. Refute it at one input. -/
def fnDivisorsWrong : ChangeSpec := { name := "fnDivisors", fn := fun _ => fun
  | [d1, d2] => { results := [.lit (.bool false)], args := [d1, d2] }
  | _ => none }
def FnDivisorsWrongFalsely : Prop := fnDivisorsRow.holds Try.pinned (OpenSpec.ofChange fnDivisorsWrong)

/-- 'laws.FnExactGetList': WHATEVER THE INPUT: true; the input reads as it did. -/
def fnExactGetListSpec : ChangeSpec := { name := "fnExactGetList", fn := fun _ => fun
  | [d1, d2] => { results := [.lit (.bool true)], args := [d1, d2] }
  | _ => none }
def fnExactGetListRow : OpenClaim := { program := "ytmpanchappoejaa", sum := "7ee55832f9f1d43811f35d0d27c4c5a1e101dd80cff3ae9bac24b518918a62c8", func := "loop.example/g01105/laws.FnExactGetList", spec := "fnExactGetList", apart := false }
def FnExactGetListSaid : Prop := fnExactGetListRow.holds Try.pinned (OpenSpec.ofChange fnExactGetListSpec)

/-- ITS FALSE NEIGHBOUR: 'it returns false'. Refute it at one input. -/
def fnExactGetListWrong : ChangeSpec := { name := "fnExactGetList", fn := fun _ => fun
  | [d1, d2] => { results := [.lit (.bool false)], args := [d1, d2] }
  | _ => none }
def FnExactGetListWrongFalsely : Prop := fnExactGetListRow.holds Try.pinned (OpenSpec.ofChange fnExactGetListWrong)

/-- 'laws.FnExactValidSequent': WHATEVER THE INPUT: true; the input reads as it did. -/
def fnExactValidSequentSpec : ChangeSpec := { name := "fnExactValidSequent", fn := fun _ => fun
  | [d] => { results := [.lit (.bool true)], args := [d] }
  | _ => none }
def fnExactValidSequentRow : OpenClaim := { program := "ytmpanchappoejaa", sum := "7ee55832f9f1d43811f35d0d27c4c5a1e101dd80cff3ae9bac24b518918a62c8", func := "loop.example/g01105/laws.FnExactValidSequent", spec := "fnExactValidSequent", apart := false }
def FnExactValidSequentSaid : Prop := fnExactValidSequentRow.holds Try.pinned (OpenSpec.ofChange fnExactValidSequentSpec)

/-- ITS FALSE NEIGHBOUR: 'it returns false'. Refute it at one input. -/
def fnExactValidSequentWrong : ChangeSpec := { name := "fnExactValidSequent", fn := fun _ => fun
  | [d] => { results := [.lit (.bool false)], args := [d] }
  | _ => none }
def FnExactValidSequentWrongFalsely : Prop := fnExactValidSequentRow.holds Try.pinned (OpenSpec.ofChange fnExactValidSequentWrong)

/-- 'laws.FnCoded': WHATEVER THE INPUT: true; the input reads as it did. -/
def fnCodedSpec : ChangeSpec := { name := "fnCoded", fn := fun _ => fun
  | [d1, d2] => { results := [.lit (.bool true)], args := [d1, d2] }
  | _ => none }
def fnCodedRow : OpenClaim := { program := "ytmpanchappoejaa", sum := "7ee55832f9f1d43811f35d0d27c4c5a1e101dd80cff3ae9bac24b518918a62c8", func := "loop.example/g01105/laws.FnCoded", spec := "fnCoded", apart := false }
def FnCodedSaid : Prop := fnCodedRow.holds Try.pinned (OpenSpec.ofChange fnCodedSpec)

/-- ITS FALSE NEIGHBOUR: 'it returns false'. Refute it at one input. -/
def fnCodedWrong : ChangeSpec := { name := "fnCoded", fn := fun _ => fun
  | [d1, d2] => { results := [.lit (.bool false)], args := [d1, d2] }
  | _ => none }
def FnCodedWrongFalsely : Prop := fnCodedRow.holds Try.pinned (OpenSpec.ofChange fnCodedWrong)

/-- 'laws.FnExactCompileTerm': WHATEVER THE INPUT: true; the input reads as it did. -/
def fnExactCompileTermSpec : ChangeSpec := { name := "fnExactCompileTerm", fn := fun _ => fun
  | [d] => { results := [.lit (.bool true)], args := [d] }
  | _ => none }
def fnExactCompileTermRow : OpenClaim := { program := "ytmpanchappoejaa", sum := "7ee55832f9f1d43811f35d0d27c4c5a1e101dd80cff3ae9bac24b518918a62c8", func := "loop.example/g01105/laws.FnExactCompileTerm", spec := "fnExactCompileTerm", apart := false }
def FnExactCompileTermSaid : Prop := fnExactCompileTermRow.holds Try.pinned (OpenSpec.ofChange fnExactCompileTermSpec)

/-- ITS FALSE NEIGHBOUR: 'it returns false'. Refute it at one input. -/
def fnExactCompileTermWrong : ChangeSpec := { name := "fnExactCompileTerm", fn := fun _ => fun
  | [d] => { results := [.lit (.bool false)], args := [d] }
  | _ => none }
def FnExactCompileTermWrongFalsely : Prop := fnExactCompileTermRow.holds Try.pinned (OpenSpec.ofChange fnExactCompileTermWrong)

/-- 'laws.FnExactShiftCode': WHATEVER THE INPUT: true; the input reads as it did. -/
def fnExactShiftCodeSpec : ChangeSpec := { name := "fnExactShiftCode", fn := fun _ => fun
  | [d1, d2] => { results := [.lit (.bool true)], args := [d1, d2] }
  | _ => none }
def fnExactShiftCodeRow : OpenClaim := { program := "ytmpanchappoejaa", sum := "7ee55832f9f1d43811f35d0d27c4c5a1e101dd80cff3ae9bac24b518918a62c8", func := "loop.example/g01105/laws.FnExactShiftCode", spec := "fnExactShiftCode", unfollowed := true, recurses := true, apart := false }
def FnExactShiftCodeSaid : Prop := fnExactShiftCodeRow.holds Try.pinned (OpenSpec.ofChange fnExactShiftCodeSpec)

/-- ITS FALSE NEIGHBOUR: 'it returns false'. Refute it at one input. -/
def fnExactShiftCodeWrong : ChangeSpec := { name := "fnExactShiftCode", fn := fun _ => fun
  | [d1, d2] => { results := [.lit (.bool false)], args := [d1, d2] }
  | _ => none }
def FnExactShiftCodeWrongFalsely : Prop := fnExactShiftCodeRow.holds Try.pinned (OpenSpec.ofChange fnExactShiftCodeWrong)

/-- 'laws.FnExactJoinCode': WHATEVER THE INPUT: true; the input reads as it did. -/
def fnExactJoinCodeSpec : ChangeSpec := { name := "fnExactJoinCode", fn := fun _ => fun
  | [d1, d2] => { results := [.lit (.bool true)], args := [d1, d2] }
  | _ => none }
def fnExactJoinCodeRow : OpenClaim := { program := "ytmpanchappoejaa", sum := "7ee55832f9f1d43811f35d0d27c4c5a1e101dd80cff3ae9bac24b518918a62c8", func := "loop.example/g01105/laws.FnExactJoinCode", spec := "fnExactJoinCode", unfollowed := true, recurses := true, apart := false }
def FnExactJoinCodeSaid : Prop := fnExactJoinCodeRow.holds Try.pinned (OpenSpec.ofChange fnExactJoinCodeSpec)

/-- ITS FALSE NEIGHBOUR: 'it returns false'. Refute it at one input. -/
def fnExactJoinCodeWrong : ChangeSpec := { name := "fnExactJoinCode", fn := fun _ => fun
  | [d1, d2] => { results := [.lit (.bool false)], args := [d1, d2] }
  | _ => none }
def FnExactJoinCodeWrongFalsely : Prop := fnExactJoinCodeRow.holds Try.pinned (OpenSpec.ofChange fnExactJoinCodeWrong)

/-- 'laws.FnExactLeadersOf': WHATEVER THE INPUT: true; the input reads as it did. -/
def fnExactLeadersOfSpec : ChangeSpec := { name := "fnExactLeadersOf", fn := fun _ => fun
  | [d] => { results := [.lit (.bool true)], args := [d] }
  | _ => none }
def fnExactLeadersOfRow : OpenClaim := { program := "ytmpanchappoejaa", sum := "7ee55832f9f1d43811f35d0d27c4c5a1e101dd80cff3ae9bac24b518918a62c8", func := "loop.example/g01105/laws.FnExactLeadersOf", spec := "fnExactLeadersOf", unfollowed := true, recurses := true, apart := false }
def FnExactLeadersOfSaid : Prop := fnExactLeadersOfRow.holds Try.pinned (OpenSpec.ofChange fnExactLeadersOfSpec)

/-- ITS FALSE NEIGHBOUR: 'it returns false'. Refute it at one input. -/
def fnExactLeadersOfWrong : ChangeSpec := { name := "fnExactLeadersOf", fn := fun _ => fun
  | [d] => { results := [.lit (.bool false)], args := [d] }
  | _ => none }
def FnExactLeadersOfWrongFalsely : Prop := fnExactLeadersOfRow.holds Try.pinned (OpenSpec.ofChange fnExactLeadersOfWrong)

/-- 'laws.FnExactIsCounter': WHATEVER THE INPUT: true; the input reads as it did. -/
def fnExactIsCounterSpec : ChangeSpec := { name := "fnExactIsCounter", fn := fun _ => fun
  | [d1, d2] => { results := [.lit (.bool true)], args := [d1, d2] }
  | _ => none }
def fnExactIsCounterRow : OpenClaim := { program := "ytmpanchappoejaa", sum := "7ee55832f9f1d43811f35d0d27c4c5a1e101dd80cff3ae9bac24b518918a62c8", func := "loop.example/g01105/laws.FnExactIsCounter", spec := "fnExactIsCounter", apart := false }
def FnExactIsCounterSaid : Prop := fnExactIsCounterRow.holds Try.pinned (OpenSpec.ofChange fnExactIsCounterSpec)

/-- ITS FALSE NEIGHBOUR: 'it returns false'. Refute it at one input. -/
def fnExactIsCounterWrong : ChangeSpec := { name := "fnExactIsCounter", fn := fun _ => fun
  | [d1, d2] => { results := [.lit (.bool false)], args := [d1, d2] }
  | _ => none }
def FnExactIsCounterWrongFalsely : Prop := fnExactIsCounterRow.holds Try.pinned (OpenSpec.ofChange fnExactIsCounterWrong)

/-- 'laws.FnExactHoldsIn': WHATEVER THE INPUT: true; the input reads as it did. -/
def fnExactHoldsInSpec : ChangeSpec := { name := "fnExactHoldsIn", fn := fun _ => fun
  | [d1, d2] => { results := [.lit (.bool true)], args := [d1, d2] }
  | _ => none }
def fnExactHoldsInRow : OpenClaim := { program := "ytmpanchappoejaa", sum := "7ee55832f9f1d43811f35d0d27c4c5a1e101dd80cff3ae9bac24b518918a62c8", func := "loop.example/g01105/laws.FnExactHoldsIn", spec := "fnExactHoldsIn", unfollowed := true, recurses := true, apart := false }
def FnExactHoldsInSaid : Prop := fnExactHoldsInRow.holds Try.pinned (OpenSpec.ofChange fnExactHoldsInSpec)

/-- ITS FALSE NEIGHBOUR: 'it returns false'. Refute it at one input. -/
def fnExactHoldsInWrong : ChangeSpec := { name := "fnExactHoldsIn", fn := fun _ => fun
  | [d1, d2] => { results := [.lit (.bool false)], args := [d1, d2] }
  | _ => none }
def FnExactHoldsInWrongFalsely : Prop := fnExactHoldsInRow.holds Try.pinned (OpenSpec.ofChange fnExactHoldsInWrong)

/-- 'laws.FnExactSymbolsOf': WHATEVER THE INPUT: true; the input reads as it did. -/
def fnExactSymbolsOfSpec : ChangeSpec := { name := "fnExactSymbolsOf", fn := fun _ => fun
  | [d] => { results := [.lit (.bool true)], args := [d] }
  | _ => none }
def fnExactSymbolsOfRow : OpenClaim := { program := "ytmpanchappoejaa", sum := "7ee55832f9f1d43811f35d0d27c4c5a1e101dd80cff3ae9bac24b518918a62c8", func := "loop.example/g01105/laws.FnExactSymbolsOf", spec := "fnExactSymbolsOf", unfollowed := true, recurses := true, apart := false }
def FnExactSymbolsOfSaid : Prop := fnExactSymbolsOfRow.holds Try.pinned (OpenSpec.ofChange fnExactSymbolsOfSpec)

/-- ITS FALSE NEIGHBOUR: 'it returns false'. Refute it at one input. -/
def fnExactSymbolsOfWrong : ChangeSpec := { name := "fnExactSymbolsOf", fn := fun _ => fun
  | [d] => { results := [.lit (.bool false)], args := [d] }
  | _ => none }
def FnExactSymbolsOfWrongFalsely : Prop := fnExactSymbolsOfRow.holds Try.pinned (OpenSpec.ofChange fnExactSymbolsOfWrong)

/- THE SECOND FORM. 'bulk': how many values and letters a reading holds, each counted each time it is reached (what is shared counts as often as it is met; a slice's spare places count too). A statement '..UptoSaid' is the law's where the arguments, and the package variables that the reading takes, are together of bulk at most 1048576: NARROWER than '..Said'. Prove '..Said' where nothing that the law and all that it calls make is longer than what came in: it says more and counts as full. Else prove '..UptoSaid'. A law counts once. -/
mutual
def uptoBulk {H : Type} : DataW H → Nat
  | .lit (.string bytes) => bytes.length + 1
  | .lit _ => 1
  | .nil => 1
  | .ptr d => uptoBulk d + 1
  | .slice elems spare => uptoBulkAll elems + uptoBulkAll spare + 1
  | .agg parts => uptoBulkAll parts + 1
  | .iface _ d => uptoBulk d + 1
  | .map entries => uptoBulkEntries entries + 1
  | .held _ => 1
def uptoBulkAll {H : Type} : List (DataW H) → Nat
  | [] => 0
  | d :: r => uptoBulk d + uptoBulkAll r
def uptoBulkEntries {H : Type} : List (Lit × DataW H) → Nat
  | [] => 0
  | x :: r => uptoBulkEntry x + uptoBulkEntries r
def uptoBulkEntry {H : Type} : Lit × DataW H → Nat
  | (.string bytes, d) => bytes.length + uptoBulk d + 1
  | (_, d) => uptoBulk d + 1
 end
def uptoSmall : (H : Type) → List (DataW H) → Bool := fun _ ds => decide (uptoBulkAll ds ≤ 1048576)
def OpenSpec.upto (s : _root_.Go.ChangeSpec) : _root_.Go.OpenSpec := { _root_.Go.OpenSpec.ofChange s with cond := some uptoSmall }

/-- 'laws.FnDivisors', WHERE WHAT IT READS IS OF BULK AT MOST 1048576: true; the input reads as it did. -/
def fnDivisorsUptoRow : OpenClaim := { program := "ytmpanchappoejaa", sum := "7ee55832f9f1d43811f35d0d27c4c5a1e101dd80cff3ae9bac24b518918a62c8", func := "loop.example/g01105/laws.FnDivisors", spec := "fnDivisors", apart := false, narrowed := true }
def FnDivisorsUptoSaid : Prop := fnDivisorsUptoRow.holds Try.pinned (OpenSpec.upto fnDivisorsSpec)

/-- 'laws.FnExactGetList', WHERE WHAT IT READS IS OF BULK AT MOST 1048576: true; the input reads as it did. -/
def fnExactGetListUptoRow : OpenClaim := { program := "ytmpanchappoejaa", sum := "7ee55832f9f1d43811f35d0d27c4c5a1e101dd80cff3ae9bac24b518918a62c8", func := "loop.example/g01105/laws.FnExactGetList", spec := "fnExactGetList", apart := false, narrowed := true }
def FnExactGetListUptoSaid : Prop := fnExactGetListUptoRow.holds Try.pinned (OpenSpec.upto fnExactGetListSpec)

/-- 'laws.FnExactValidSequent', WHERE WHAT IT READS IS OF BULK AT MOST 1048576: true; the input reads as it did. -/
def fnExactValidSequentUptoRow : OpenClaim := { program := "ytmpanchappoejaa", sum := "7ee55832f9f1d43811f35d0d27c4c5a1e101dd80cff3ae9bac24b518918a62c8", func := "loop.example/g01105/laws.FnExactValidSequent", spec := "fnExactValidSequent", apart := false, narrowed := true }
def FnExactValidSequentUptoSaid : Prop := fnExactValidSequentUptoRow.holds Try.pinned (OpenSpec.upto fnExactValidSequentSpec)

/-- 'laws.FnCoded', WHERE WHAT IT READS IS OF BULK AT MOST 1048576: true; the input reads as it did. -/
def fnCodedUptoRow : OpenClaim := { program := "ytmpanchappoejaa", sum := "7ee55832f9f1d43811f35d0d27c4c5a1e101dd80cff3ae9bac24b518918a62c8", func := "loop.example/g01105/laws.FnCoded", spec := "fnCoded", apart := false, narrowed := true }
def FnCodedUptoSaid : Prop := fnCodedUptoRow.holds Try.pinned (OpenSpec.upto fnCodedSpec)

/-- 'laws.FnExactCompileTerm', WHERE WHAT IT READS IS OF BULK AT MOST 1048576: true; the input reads as it did. -/
def fnExactCompileTermUptoRow : OpenClaim := { program := "ytmpanchappoejaa", sum := "7ee55832f9f1d43811f35d0d27c4c5a1e101dd80cff3ae9bac24b518918a62c8", func := "loop.example/g01105/laws.FnExactCompileTerm", spec := "fnExactCompileTerm", apart := false, narrowed := true }
def FnExactCompileTermUptoSaid : Prop := fnExactCompileTermUptoRow.holds Try.pinned (OpenSpec.upto fnExactCompileTermSpec)

/-- 'laws.FnExactShiftCode', WHERE WHAT IT READS IS OF BULK AT MOST 1048576: true; the input reads as it did. -/
def fnExactShiftCodeUptoRow : OpenClaim := { program := "ytmpanchappoejaa", sum := "7ee55832f9f1d43811f35d0d27c4c5a1e101dd80cff3ae9bac24b518918a62c8", func := "loop.example/g01105/laws.FnExactShiftCode", spec := "fnExactShiftCode", unfollowed := true, recurses := true, apart := false, narrowed := true }
def FnExactShiftCodeUptoSaid : Prop := fnExactShiftCodeUptoRow.holds Try.pinned (OpenSpec.upto fnExactShiftCodeSpec)

/-- 'laws.FnExactJoinCode', WHERE WHAT IT READS IS OF BULK AT MOST 1048576: true; the input reads as it did. -/
def fnExactJoinCodeUptoRow : OpenClaim := { program := "ytmpanchappoejaa", sum := "7ee55832f9f1d43811f35d0d27c4c5a1e101dd80cff3ae9bac24b518918a62c8", func := "loop.example/g01105/laws.FnExactJoinCode", spec := "fnExactJoinCode", unfollowed := true, recurses := true, apart := false, narrowed := true }
def FnExactJoinCodeUptoSaid : Prop := fnExactJoinCodeUptoRow.holds Try.pinned (OpenSpec.upto fnExactJoinCodeSpec)

/-- 'laws.FnExactLeadersOf', WHERE WHAT IT READS IS OF BULK AT MOST 1048576: true; the input reads as it did. -/
def fnExactLeadersOfUptoRow : OpenClaim := { program := "ytmpanchappoejaa", sum := "7ee55832f9f1d43811f35d0d27c4c5a1e101dd80cff3ae9bac24b518918a62c8", func := "loop.example/g01105/laws.FnExactLeadersOf", spec := "fnExactLeadersOf", unfollowed := true, recurses := true, apart := false, narrowed := true }
def FnExactLeadersOfUptoSaid : Prop := fnExactLeadersOfUptoRow.holds Try.pinned (OpenSpec.upto fnExactLeadersOfSpec)

/-- 'laws.FnExactIsCounter', WHERE WHAT IT READS IS OF BULK AT MOST 1048576: true; the input reads as it did. -/
def fnExactIsCounterUptoRow : OpenClaim := { program := "ytmpanchappoejaa", sum := "7ee55832f9f1d43811f35d0d27c4c5a1e101dd80cff3ae9bac24b518918a62c8", func := "loop.example/g01105/laws.FnExactIsCounter", spec := "fnExactIsCounter", apart := false, narrowed := true }
def FnExactIsCounterUptoSaid : Prop := fnExactIsCounterUptoRow.holds Try.pinned (OpenSpec.upto fnExactIsCounterSpec)

/-- 'laws.FnExactHoldsIn', WHERE WHAT IT READS IS OF BULK AT MOST 1048576: true; the input reads as it did. -/
def fnExactHoldsInUptoRow : OpenClaim := { program := "ytmpanchappoejaa", sum := "7ee55832f9f1d43811f35d0d27c4c5a1e101dd80cff3ae9bac24b518918a62c8", func := "loop.example/g01105/laws.FnExactHoldsIn", spec := "fnExactHoldsIn", unfollowed := true, recurses := true, apart := false, narrowed := true }
def FnExactHoldsInUptoSaid : Prop := fnExactHoldsInUptoRow.holds Try.pinned (OpenSpec.upto fnExactHoldsInSpec)

/-- 'laws.FnExactSymbolsOf', WHERE WHAT IT READS IS OF BULK AT MOST 1048576: true; the input reads as it did. -/
def fnExactSymbolsOfUptoRow : OpenClaim := { program := "ytmpanchappoejaa", sum := "7ee55832f9f1d43811f35d0d27c4c5a1e101dd80cff3ae9bac24b518918a62c8", func := "loop.example/g01105/laws.FnExactSymbolsOf", spec := "fnExactSymbolsOf", unfollowed := true, recurses := true, apart := false, narrowed := true }
def FnExactSymbolsOfUptoSaid : Prop := fnExactSymbolsOfUptoRow.holds Try.pinned (OpenSpec.upto fnExactSymbolsOfSpec)

end Rows
end Go.Proofs.Ytmpanchappoejaa
