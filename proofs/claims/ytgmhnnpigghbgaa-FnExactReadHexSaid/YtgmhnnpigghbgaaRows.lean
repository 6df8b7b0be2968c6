/-
  No cell of these rows narrows 'for every input' (looked for: loops, veiled, ifaces, maps, wideKeys, modest, calm, conditions, laid).
  DERIVED. THE GIVEN ROWS OF THIS SEAT. 12 by the template 'for every input the law returns true; each argument reads behind the call as it read before'; 0 by the template 'total and deterministic' (their statements: YtgmhnnpigghbgaaTotals.lean).
  GIVEN WITH THE SEED: the statements are not yours to turn. If you find one false, say at which input.
  Laid BY PROGRAM, IN A SANDBOX (cutbox-rows.mjs): the forced cells as the released guide's own fill.sh prints them over the translation 0c16b772d499fa6f… (all of the seat's roots in one cut). By AI agents, Wed Nov 11 2026. No macro, syntax, notation, axiom, sorry.
-/
import Derived.Test.YtgmhnnpigghbgaaChecked
import GoSem.Claim
import GoSem.ClaimJoined
import GoSem.ClaimMapViews
import Derived.JoinedTies
import Derived.KernelRfl
namespace Go.Proofs.Ytgmhnnpigghbgaa
/- THE CELL 'sum', in the pinned program and in every row, IS THE sha256 OF THE DUMP (.gsa) THAT YtgmhnnpigghbgaaProg.lean LOADS. Nothing in Lean hashes anything: it is a label: what it is worth is what the hold of that sum in a sandbox is worth. -/
noncomputable def Try.pinned : Pinned := { name := "ytgmhnnpigghbgaa", sum := "0c16b772d499fa6fe11e8e577662d8443586369dcc1d850fae8f948b3529741c", checked := Try.checked }
namespace Rows
def none {H : Type} : Left H := { results := [], args := [] }

/-- 'laws.FnExactValidInstr': WHATEVER THE INPUT: true; the input reads as it did. -/
def fnExactValidInstrSpec : ChangeSpec := { name := "fnExactValidInstr", fn := fun _ => fun
  | [d] => { results := [.lit (.bool true)], args := [d] }
  | _ => none }
def fnExactValidInstrRow : OpenClaim := { program := "ytgmhnnpigghbgaa", sum := "0c16b772d499fa6fe11e8e577662d8443586369dcc1d850fae8f948b3529741c", func := "loop.example/g01105/laws.FnExactValidInstr", spec := "fnExactValidInstr", apart := false }
def FnExactValidInstrSaid : Prop := fnExactValidInstrRow.holds Try.pinned (OpenSpec.ofChange fnExactValidInstrSpec)

/-- ITS FALSE NEIGHBOUR: 'it returns false'. Refute it at one input. -/
def fnExactValidInstrWrong : ChangeSpec := { name := "fnExactValidInstr", fn := fun _ => fun
  | [d] => { results := [.lit (.bool false)], args := [d] }
  | _ => none }
def FnExactValidInstrWrongFalsely : Prop := fnExactValidInstrRow.holds Try.pinned (OpenSpec.ofChange fnExactValidInstrWrong)

/-- 'laws.FnExactReadHex': WHATEVER THE INPUT: true; the input reads as it did. -/
def fnExactReadHexSpec : ChangeSpec := { name := "fnExactReadHex", fn := fun _ => fun
  | [d] => { results := [.lit (.bool true)], args := [d] }
  | _ => none }
def fnExactReadHexRow : OpenClaim := { program := "ytgmhnnpigghbgaa", sum := "0c16b772d499fa6fe11e8e577662d8443586369dcc1d850fae8f948b3529741c", func := "loop.example/g01105/laws.FnExactReadHex", spec := "fnExactReadHex", inPlace := ["internal/bytealg.IndexByteString"], apart := false }
def FnExactReadHexSaid : Prop := fnExactReadHexRow.holds Try.pinned (OpenSpec.ofChange fnExactReadHexSpec)

/-- ITS FALSE NEIGHBOUR: 'it returns false'. Refute it at one input. -/
def fnExactReadHexWrong : ChangeSpec := { name := "fnExactReadHex", fn := fun _ => fun
  | [d] => { results := [.lit (.bool false)], args := [d] }
  | _ => none }
def FnExactReadHexWrongFalsely : Prop := fnExactReadHexRow.holds Try.pinned (OpenSpec.ofChange fnExactReadHexWrong)

/-- 'laws.FnExactGetNumber': WHATEVER THE INPUT: true; the input reads as it did. -/
def fnExactGetNumberSpec : ChangeSpec := { name := "fnExactGetNumber", fn := fun _ => fun
  | [d1, d2] => { results := [.lit (.bool true)], args := [d1, d2] }
  | _ => none }
def fnExactGetNumberRow : OpenClaim := { program := "ytgmhnnpigghbgaa", sum := "0c16b772d499fa6fe11e8e577662d8443586369dcc1d850fae8f948b3529741c", func := "loop.example/g01105/laws.FnExactGetNumber", spec := "fnExactGetNumber", apart := false }
def FnExactGetNumberSaid : Prop := fnExactGetNumberRow.holds Try.pinned (OpenSpec.ofChange fnExactGetNumberSpec)

/-- ITS FALSE NEIGHBOUR: 'it returns false'. Refute it at one input. -/
def fnExactGetNumberWrong : ChangeSpec := { name := "fnExactGetNumber", fn := fun _ => fun
  | [d1, d2] => { results := [.lit (.bool false)], args := [d1, d2] }
  | _ => none }
def FnExactGetNumberWrongFalsely : Prop := fnExactGetNumberRow.holds Try.pinned (OpenSpec.ofChange fnExactGetNumberWrong)

/-- 'laws.FnExactValidState': WHATEVER THE INPUT: true; the input reads as it did. -/
def fnExactValidStateSpec : ChangeSpec := { name := "fnExactValidState", fn := fun _ => fun
  | [d] => { results := [.lit (.bool true)], args := [d] }
  | _ => none }
def fnExactValidStateRow : OpenClaim := { program := "ytgmhnnpigghbgaa", sum := "0c16b772d499fa6fe11e8e577662d8443586369dcc1d850fae8f948b3529741c", func := "loop.example/g01105/laws.FnExactValidState", spec := "fnExactValidState", apart := false }
def FnExactValidStateSaid : Prop := fnExactValidStateRow.holds Try.pinned (OpenSpec.ofChange fnExactValidStateSpec)

/-- ITS FALSE NEIGHBOUR: 'it returns false'. Refute it at one input. -/
def fnExactValidStateWrong : ChangeSpec := { name := "fnExactValidState", fn := fun _ => fun
  | [d] => { results := [.lit (.bool false)], args := [d] }
  | _ => none }
def FnExactValidStateWrongFalsely : Prop := fnExactValidStateRow.holds Try.pinned (OpenSpec.ofChange fnExactValidStateWrong)

/-- 'laws.FnExactValidTerm': WHATEVER THE INPUT: true; the input reads as it did. -/
def fnExactValidTermSpec : ChangeSpec := { name := "fnExactValidTerm", fn := fun _ => fun
  | [d] => { results := [.lit (.bool true)], args := [d] }
  | _ => none }
def fnExactValidTermRow : OpenClaim := { program := "ytgmhnnpigghbgaa", sum := "0c16b772d499fa6fe11e8e577662d8443586369dcc1d850fae8f948b3529741c", func := "loop.example/g01105/laws.FnExactValidTerm", spec := "fnExactValidTerm", apart := false }
def FnExactValidTermSaid : Prop := fnExactValidTermRow.holds Try.pinned (OpenSpec.ofChange fnExactValidTermSpec)

/-- ITS FALSE NEIGHBOUR: 'it returns false'. Refute it at one input. -/
def fnExactValidTermWrong : ChangeSpec := { name := "fnExactValidTerm", fn := fun _ => fun
  | [d] => { results := [.lit (.bool false)], args := [d] }
  | _ => none }
def FnExactValidTermWrongFalsely : Prop := fnExactValidTermRow.holds Try.pinned (OpenSpec.ofChange fnExactValidTermWrong)

/-- 'laws.FnExactGetText': WHATEVER THE INPUT: true; the input reads as it did. -/
def fnExactGetTextSpec : ChangeSpec := { name := "fnExactGetText", fn := fun _ => fun
  | [d1, d2] => { results := [.lit (.bool true)], args := [d1, d2] }
  | _ => none }
def fnExactGetTextRow : OpenClaim := { program := "ytgmhnnpigghbgaa", sum := "0c16b772d499fa6fe11e8e577662d8443586369dcc1d850fae8f948b3529741c", func := "loop.example/g01105/laws.FnExactGetText", spec := "fnExactGetText", apart := false }
def FnExactGetTextSaid : Prop := fnExactGetTextRow.holds Try.pinned (OpenSpec.ofChange fnExactGetTextSpec)

/-- ITS FALSE NEIGHBOUR: 'it returns false'. Refute it at one input. -/
def fnExactGetTextWrong : ChangeSpec := { name := "fnExactGetText", fn := fun _ => fun
  | [d1, d2] => { results := [.lit (.bool false)], args := [d1, d2] }
  | _ => none }
def FnExactGetTextWrongFalsely : Prop := fnExactGetTextRow.holds Try.pinned (OpenSpec.ofChange fnExactGetTextWrong)

/-- 'laws.FnExactGcdOf': WHATEVER THE INPUT: true; the input reads as it did. -/
def fnExactGcdOfSpec : ChangeSpec := { name := "fnExactGcdOf", fn := fun _ => fun
  | [d] => { results := [.lit (.bool true)], args := [d] }
  | _ => none }
def fnExactGcdOfRow : OpenClaim := { program := "ytgmhnnpigghbgaa", sum := "0c16b772d499fa6fe11e8e577662d8443586369dcc1d850fae8f948b3529741c", func := "loop.example/g01105/laws.FnExactGcdOf", spec := "fnExactGcdOf", apart := false }
def FnExactGcdOfSaid : Prop := fnExactGcdOfRow.holds Try.pinned (OpenSpec.ofChange fnExactGcdOfSpec)

/-- ITS FALSE NEIGHBOUR: 'it returns false'. Refute it at one input. -/
def fnExactGcdOfWrong : ChangeSpec := { name := "fnExactGcdOf", fn := fun _ => fun
  | [d] => { results := [.lit (.bool false)], args := [d] }
  | _ => none }
def FnExactGcdOfWrongFalsely : Prop := fnExactGcdOfRow.holds Try.pinned (OpenSpec.ofChange fnExactGcdOfWrong)

/-- 'laws.FnExactPutList': WHATEVER THE INPUT: true; the input reads as it did. -/
def fnExactPutListSpec : ChangeSpec := { name := "fnExactPutList", fn := fun _ => fun
  | [d] => { results := [.lit (.bool true)], args := [d] }
  | _ => none }
def fnExactPutListRow : OpenClaim := { program := "ytgmhnnpigghbgaa", sum := "0c16b772d499fa6fe11e8e577662d8443586369dcc1d850fae8f948b3529741c", func := "loop.example/g01105/laws.FnExactPutList", spec := "fnExactPutList", apart := false }
def FnExactPutListSaid : Prop := fnExactPutListRow.holds Try.pinned (OpenSpec.ofChange fnExactPutListSpec)

/-- ITS FALSE NEIGHBOUR: 'it returns false'. Refute it at one input. -/
def fnExactPutListWrong : ChangeSpec := { name := "fnExactPutList", fn := fun _ => fun
  | [d] => { results := [.lit (.bool false)], args := [d] }
  | _ => none }
def FnExactPutListWrongFalsely : Prop := fnExactPutListRow.holds Try.pinned (OpenSpec.ofChange fnExactPutListWrong)

/-- 'laws.FnExactSameTerm': WHATEVER THE INPUT: true; the input reads as it did. -/
def fnExactSameTermSpec : ChangeSpec := { name := "fnExactSameTerm", fn := fun _ => fun
  | [d1, d2] => { results := [.lit (.bool true)], args := [d1, d2] }
  | _ => none }
def fnExactSameTermRow : OpenClaim := { program := "ytgmhnnpigghbgaa", sum := "0c16b772d499fa6fe11e8e577662d8443586369dcc1d850fae8f948b3529741c", func := "loop.example/g01105/laws.FnExactSameTerm", spec := "fnExactSameTerm", apart := false }
def FnExactSameTermSaid : Prop := fnExactSameTermRow.holds Try.pinned (OpenSpec.ofChange fnExactSameTermSpec)

/-- ITS FALSE NEIGHBOUR: 'it returns false'. Refute it at one input. -/
def fnExactSameTermWrong : ChangeSpec := { name := "fnExactSameTerm", fn := fun _ => fun
  | [d1, d2] => { results := [.lit (.bool false)], args := [d1, d2] }
  | _ => none }
def FnExactSameTermWrongFalsely : Prop := fnExactSameTermRow.holds Try.pinned (OpenSpec.ofChange fnExactSameTermWrong)

/-- 'laws.FnExactValidCode': WHATEVER THE INPUT: true; the input reads as it did. -/
def fnExactValidCodeSpec : ChangeSpec := { name := "fnExactValidCode", fn := fun _ => fun
  | [d] => { results := [.lit (.bool true)], args := [d] }
  | _ => none }
def fnExactValidCodeRow : OpenClaim := { program := "ytgmhnnpigghbgaa", sum := "0c16b772d499fa6fe11e8e577662d8443586369dcc1d850fae8f948b3529741c", func := "loop.example/g01105/laws.FnExactValidCode", spec := "fnExactValidCode", unfollowed := true, recurses := true, apart := false }
def FnExactValidCodeSaid : Prop := fnExactValidCodeRow.holds Try.pinned (OpenSpec.ofChange fnExactValidCodeSpec)

/-- ITS FALSE NEIGHBOUR: 'it returns false'. Refute it at one input. -/
def fnExactValidCodeWrong : ChangeSpec := { name := "fnExactValidCode", fn := fun _ => fun
  | [d] => { results := [.lit (.bool false)], args := [d] }
  | _ => none }
def FnExactValidCodeWrongFalsely : Prop := fnExactValidCodeRow.holds Try.pinned (OpenSpec.ofChange fnExactValidCodeWrong)

/-- 'laws.FnExactEvalTerm': WHATEVER THE INPUT: true; the input reads as it did. -/
def fnExactEvalTermSpec : ChangeSpec := { name := "fnExactEvalTerm", fn := fun _ => fun
  | [d1, d2] => { results := [.lit (.bool true)], args := [d1, d2] }
  | _ => none }
def fnExactEvalTermRow : OpenClaim := { program := "ytgmhnnpigghbgaa", sum := "0c16b772d499fa6fe11e8e577662d8443586369dcc1d850fae8f948b3529741c", func := "loop.example/g01105/laws.FnExactEvalTerm", spec := "fnExactEvalTerm", apart := false }
def FnExactEvalTermSaid : Prop := fnExactEvalTermRow.holds Try.pinned (OpenSpec.ofChange fnExactEvalTermSpec)

/-- ITS FALSE NEIGHBOUR: 'it returns false'. Refute it at one input. -/
def fnExactEvalTermWrong : ChangeSpec := { name := "fnExactEvalTerm", fn := fun _ => fun
  | [d1, d2] => { results := [.lit (.bool false)], args := [d1, d2] }
  | _ => none }
def FnExactEvalTermWrongFalsely : Prop := fnExactEvalTermRow.holds Try.pinned (OpenSpec.ofChange fnExactEvalTermWrong)

/-- 'laws.FnExactValidFacts': WHATEVER THE INPUT: true; the input reads as it did. -/
def fnExactValidFactsSpec : ChangeSpec := { name := "fnExactValidFacts", fn := fun _ => fun
  | [d] => { results := [.lit (.bool true)], args := [d] }
  | _ => none }
def fnExactValidFactsRow : OpenClaim := { program := "ytgmhnnpigghbgaa", sum := "0c16b772d499fa6fe11e8e577662d8443586369dcc1d850fae8f948b3529741c", func := "loop.example/g01105/laws.FnExactValidFacts", spec := "fnExactValidFacts", apart := false }
def FnExactValidFactsSaid : Prop := fnExactValidFactsRow.holds Try.pinned (OpenSpec.ofChange fnExactValidFactsSpec)

/-- ITS FALSE NEIGHBOUR: 'it returns false'. Refute it at one input. -/
def fnExactValidFactsWrong : ChangeSpec := { name := "fnExactValidFacts", fn := fun _ => fun
  | [d] => { results := [.lit (.bool false)], args := [d] }
  | _ => none }
def FnExactValidFactsWrongFalsely : Prop := fnExactValidFactsRow.holds Try.pinned (OpenSpec.ofChange fnExactValidFactsWrong)

/- THE SECOND FORM. 'bulk': how many values and letters a reading holds, each counted each time it is reached (what is shared counts as often as it is met; a slice's spare places count too). A statement '..UptoSaid' is the law's where the arguments, and the package variables that the reading takes, are together of bulk at most 1048576: NARROWER than '..Said'. Prove '..Said' where nothing that the law and all that it calls make is longer than what came in: it says more and counts as full. Else prove '..UptoSaid'. A law counts once. -/
mutual
def uptoBulk {H : Type} : DataW H → Nat
  | .lit (.string bytes) => bytes.length + 1
  | .lit _ => 1
  | .nil => 1
  | .ptr d => uptoBulk d + 1
  | .slice elems spare => uptoBulkAll elems + uptoBulkAll spare + 1
  | .agg parts => uptoBulkAll parts + 1
  | .iface _ d => uptoBulk d + 1
  | .map entries => uptoBulkEntries entries + 1
  | .held _ => 1
def uptoBulkAll {H : Type} : List (DataW H) → Nat
  | [] => 0
  | d :: r => uptoBulk d + uptoBulkAll r
def uptoBulkEntries {H : Type} : List (Lit × DataW H) → Nat
  | [] => 0
  | x :: r => uptoBulkEntry x + uptoBulkEntries r
def uptoBulkEntry {H : Type} : Lit × DataW H → Nat
  | (.string bytes, d) => bytes.length + uptoBulk d + 1
  | (_, d) => uptoBulk d + 1
 end
def uptoSmall : (H : Type) → List (DataW H) → Bool := fun _ ds => decide (uptoBulkAll ds ≤ 1048576)
def OpenSpec.upto (s : _root_.Go.ChangeSpec) : _root_.Go.OpenSpec := { _root_.Go.OpenSpec.ofChange s with cond := some uptoSmall }

/-- 'laws.FnExactValidInstr', WHERE WHAT IT READS IS OF BULK AT MOST 1048576: true; the input reads as it did. -/
def fnExactValidInstrUptoRow : OpenClaim := { program := "ytgmhnnpigghbgaa", sum := "0c16b772d499fa6fe11e8e577662d8443586369dcc1d850fae8f948b3529741c", func := "loop.example/g01105/laws.FnExactValidInstr", spec := "fnExactValidInstr", apart := false, narrowed := true }
def FnExactValidInstrUptoSaid : Prop := fnExactValidInstrUptoRow.holds Try.pinned (OpenSpec.upto fnExactValidInstrSpec)

/-- 'laws.FnExactReadHex', WHERE WHAT IT READS IS OF BULK AT MOST 1048576: true; the input reads as it did. -/
def fnExactReadHexUptoRow : OpenClaim := { program := "ytgmhnnpigghbgaa", sum := "0c16b772d499fa6fe11e8e577662d8443586369dcc1d850fae8f948b3529741c", func := "loop.example/g01105/laws.FnExactReadHex", spec := "fnExactReadHex", inPlace := ["internal/bytealg.IndexByteString"], apart := false, narrowed := true }
def FnExactReadHexUptoSaid : Prop := fnExactReadHexUptoRow.holds Try.pinned (OpenSpec.upto fnExactReadHexSpec)

/-- 'laws.FnExactGetNumber', WHERE WHAT IT READS IS OF BULK AT MOST 1048576: true; the input reads as it did. -/
def fnExactGetNumberUptoRow : OpenClaim := { program := "ytgmhnnpigghbgaa", sum := "0c16b772d499fa6fe11e8e577662d8443586369dcc1d850fae8f948b3529741c", func := "loop.example/g01105/laws.FnExactGetNumber", spec := "fnExactGetNumber", apart := false, narrowed := true }
def FnExactGetNumberUptoSaid : Prop := fnExactGetNumberUptoRow.holds Try.pinned (OpenSpec.upto fnExactGetNumberSpec)

/-- 'laws.FnExactValidState', WHERE WHAT IT READS IS OF BULK AT MOST 1048576: true; the input reads as it did. -/
def fnExactValidStateUptoRow : OpenClaim := { program := "ytgmhnnpigghbgaa", sum := "0c16b772d499fa6fe11e8e577662d8443586369dcc1d850fae8f948b3529741c", func := "loop.example/g01105/laws.FnExactValidState", spec := "fnExactValidState", apart := false, narrowed := true }
def FnExactValidStateUptoSaid : Prop := fnExactValidStateUptoRow.holds Try.pinned (OpenSpec.upto fnExactValidStateSpec)

/-- 'laws.FnExactValidTerm', WHERE WHAT IT READS IS OF BULK AT MOST 1048576: true; the input reads as it did. -/
def fnExactValidTermUptoRow : OpenClaim := { program := "ytgmhnnpigghbgaa", sum := "0c16b772d499fa6fe11e8e577662d8443586369dcc1d850fae8f948b3529741c", func := "loop.example/g01105/laws.FnExactValidTerm", spec := "fnExactValidTerm", apart := false, narrowed := true }
def FnExactValidTermUptoSaid : Prop := fnExactValidTermUptoRow.holds Try.pinned (OpenSpec.upto fnExactValidTermSpec)

/-- 'laws.FnExactGetText', WHERE WHAT IT READS IS OF BULK AT MOST 1048576: true; the input reads as it did. -/
def fnExactGetTextUptoRow : OpenClaim := { program := "ytgmhnnpigghbgaa", sum := "0c16b772d499fa6fe11e8e577662d8443586369dcc1d850fae8f948b3529741c", func := "loop.example/g01105/laws.FnExactGetText", spec := "fnExactGetText", apart := false, narrowed := true }
def FnExactGetTextUptoSaid : Prop := fnExactGetTextUptoRow.holds Try.pinned (OpenSpec.upto fnExactGetTextSpec)

/-- 'laws.FnExactGcdOf', WHERE WHAT IT READS IS OF BULK AT MOST 1048576: true; the input reads as it did. -/
def fnExactGcdOfUptoRow : OpenClaim := { program := "ytgmhnnpigghbgaa", sum := "0c16b772d499fa6fe11e8e577662d8443586369dcc1d850fae8f948b3529741c", func := "loop.example/g01105/laws.FnExactGcdOf", spec := "fnExactGcdOf", apart := false, narrowed := true }
def FnExactGcdOfUptoSaid : Prop := fnExactGcdOfUptoRow.holds Try.pinned (OpenSpec.upto fnExactGcdOfSpec)

/-- 'laws.FnExactPutList', WHERE WHAT IT READS IS OF BULK AT MOST 1048576: true; the input reads as it did. -/
def fnExactPutListUptoRow : OpenClaim := { program := "ytgmhnnpigghbgaa", sum := "0c16b772d499fa6fe11e8e577662d8443586369dcc1d850fae8f948b3529741c", func := "loop.example/g01105/laws.FnExactPutList", spec := "fnExactPutList", apart := false, narrowed := true }
def FnExactPutListUptoSaid : Prop := fnExactPutListUptoRow.holds Try.pinned (OpenSpec.upto fnExactPutListSpec)

/-- 'laws.FnExactSameTerm', WHERE WHAT IT READS IS OF BULK AT MOST 1048576: true; the input reads as it did. -/
def fnExactSameTermUptoRow : OpenClaim := { program := "ytgmhnnpigghbgaa", sum := "0c16b772d499fa6fe11e8e577662d8443586369dcc1d850fae8f948b3529741c", func := "loop.example/g01105/laws.FnExactSameTerm", spec := "fnExactSameTerm", apart := false, narrowed := true }
def FnExactSameTermUptoSaid : Prop := fnExactSameTermUptoRow.holds Try.pinned (OpenSpec.upto fnExactSameTermSpec)

/-- 'laws.FnExactValidCode', WHERE WHAT IT READS IS OF BULK AT MOST 1048576: true; the input reads as it did. -/
def fnExactValidCodeUptoRow : OpenClaim := { program := "ytgmhnnpigghbgaa", sum := "0c16b772d499fa6fe11e8e577662d8443586369dcc1d850fae8f948b3529741c", func := "loop.example/g01105/laws.FnExactValidCode", spec := "fnExactValidCode", unfollowed := true, recurses := true, apart := false, narrowed := true }
def FnExactValidCodeUptoSaid : Prop := fnExactValidCodeUptoRow.holds Try.pinned (OpenSpec.upto fnExactValidCodeSpec)

/-- 'laws.FnExactEvalTerm', WHERE WHAT IT READS IS OF BULK AT MOST 1048576: true; the input reads as it did. -/
def fnExactEvalTermUptoRow : OpenClaim := { program := "ytgmhnnpigghbgaa", sum := "0c16b772d499fa6fe11e8e577662d8443586369dcc1d850fae8f948b3529741c", func := "loop.example/g01105/laws.FnExactEvalTerm", spec := "fnExactEvalTerm", apart := false, narrowed := true }
def FnExactEvalTermUptoSaid : Prop := fnExactEvalTermUptoRow.holds Try.pinned (OpenSpec.upto fnExactEvalTermSpec)

/-- 'laws.FnExactValidFacts', WHERE WHAT IT READS IS OF BULK AT MOST 1048576: true; the input reads as it did. -/
def fnExactValidFactsUptoRow : OpenClaim := { program := "ytgmhnnpigghbgaa", sum := "0c16b772d499fa6fe11e8e577662d8443586369dcc1d850fae8f948b3529741c", func := "loop.example/g01105/laws.FnExactValidFacts", spec := "fnExactValidFacts", apart := false, narrowed := true }
def FnExactValidFactsUptoSaid : Prop := fnExactValidFactsUptoRow.holds Try.pinned (OpenSpec.upto fnExactValidFactsSpec)

end Rows
end Go.Proofs.Ytgmhnnpigghbgaa
