/-
  No cell of these rows narrows 'for every input' (looked for: loops, veiled, ifaces, maps, wideKeys, modest, calm, conditions, laid).
  DERIVED. THE GIVEN ROWS OF THIS SEAT. 7 by the template 'for every input the law returns true; each argument reads behind the call as it read before'; 0 by the template 'total and deterministic' (their statements: YtedmhdinfedhhaaTotals.lean).
  GIVEN WITH THE SEED: the statements are not yours to turn. If you find one false, say at which input.
  Laid BY PROGRAM, IN A SANDBOX (cutbox-rows.mjs): the forced cells as the released guide's own fill.sh prints them over the translation 73510e99b411ec99… (all of the seat's roots in one cut). By AI agents, Wed Nov 11 2026. No macro, syntax, notation, axiom, sorry.
-/
import Derived.Test.YtedmhdinfedhhaaChecked
import GoSem.Claim
import GoSem.ClaimJoined
import GoSem.ClaimMapViews
import Derived.JoinedTies
import Derived.KernelRfl
namespace Go.Proofs.Ytedmhdinfedhhaa
/- THE CELL 'sum', in the pinned program and in every row, IS THE sha256 OF THE DUMP (.gsa) THAT YtedmhdinfedhhaaProg.lean LOADS. Nothing in Lean hashes anything: it is a label: what it is worth is what the hold of that sum in a sandbox is worth. -/
noncomputable def Try.pinned : Pinned := { name := "ytedmhdinfedhhaa", sum := "73510e99b411ec99bc9253203b4d15bee3ae270e9112e638f5d36fb1638f4a6b", checked := Try.checked }
namespace Rows
def none {H : Type} : Left H := { results := [], args := [] }

/-- 'laws.FnExactHeightsOf': WHATEVER THE INPUT: true; the input reads as it did. -/
def fnExactHeightsOfSpec : ChangeSpec := { name := "fnExactHeightsOf", fn := fun _ => fun
  | [d] => { results := [.lit (.bool true)], args := [d] }
  | _ => none }
def fnExactHeightsOfRow : OpenClaim := { program := "ytedmhdinfedhhaa", sum := "73510e99b411ec99bc9253203b4d15bee3ae270e9112e638f5d36fb1638f4a6b", func := "loop.example/g01105/laws.FnExactHeightsOf", spec := "fnExactHeightsOf", unfollowed := true, recurses := true, apart := false }
def FnExactHeightsOfSaid : Prop := fnExactHeightsOfRow.holds Try.pinned (OpenSpec.ofChange fnExactHeightsOfSpec)

/-- ITS FALSE NEIGHBOUR: 'it returns false'. Refute it at one input. -/
def fnExactHeightsOfWrong : ChangeSpec := { name := "fnExactHeightsOf", fn := fun _ => fun
  | [d] => { results := [.lit (.bool false)], args := [d] }
  | _ => none }
def FnExactHeightsOfWrongFalsely : Prop := fnExactHeightsOfRow.holds Try.pinned (OpenSpec.ofChange fnExactHeightsOfWrong)

/-- 'laws.FnExactOpenLoops': WHATEVER THE INPUT: true; the input reads as it did. -/
def fnExactOpenLoopsSpec : ChangeSpec := { name := "fnExactOpenLoops", fn := fun _ => fun
  | [d] => { results := [.lit (.bool true)], args := [d] }
  | _ => none }
def fnExactOpenLoopsRow : OpenClaim := { program := "ytedmhdinfedhhaa", sum := "73510e99b411ec99bc9253203b4d15bee3ae270e9112e638f5d36fb1638f4a6b", func := "loop.example/g01105/laws.FnExactOpenLoops", spec := "fnExactOpenLoops", unfollowed := true, recurses := true, apart := false }
def FnExactOpenLoopsSaid : Prop := fnExactOpenLoopsRow.holds Try.pinned (OpenSpec.ofChange fnExactOpenLoopsSpec)

/-- ITS FALSE NEIGHBOUR: 'it returns false'. Refute it at one input. -/
def fnExactOpenLoopsWrong : ChangeSpec := { name := "fnExactOpenLoops", fn := fun _ => fun
  | [d] => { results := [.lit (.bool false)], args := [d] }
  | _ => none }
def FnExactOpenLoopsWrongFalsely : Prop := fnExactOpenLoopsRow.holds Try.pinned (OpenSpec.ofChange fnExactOpenLoopsWrong)

/-- 'laws.FnExactLongestWay': WHATEVER THE INPUT: true; the input reads as it did. -/
def fnExactLongestWaySpec : ChangeSpec := { name := "fnExactLongestWay", fn := fun _ => fun
  | [d] => { results := [.lit (.bool true)], args := [d] }
  | _ => none }
def fnExactLongestWayRow : OpenClaim := { program := "ytedmhdinfedhhaa", sum := "73510e99b411ec99bc9253203b4d15bee3ae270e9112e638f5d36fb1638f4a6b", func := "loop.example/g01105/laws.FnExactLongestWay", spec := "fnExactLongestWay", unfollowed := true, recurses := true, apart := false }
def FnExactLongestWaySaid : Prop := fnExactLongestWayRow.holds Try.pinned (OpenSpec.ofChange fnExactLongestWaySpec)

/-- ITS FALSE NEIGHBOUR: 'it returns false'. Refute it at one input. -/
def fnExactLongestWayWrong : ChangeSpec := { name := "fnExactLongestWay", fn := fun _ => fun
  | [d] => { results := [.lit (.bool false)], args := [d] }
  | _ => none }
def FnExactLongestWayWrongFalsely : Prop := fnExactLongestWayRow.holds Try.pinned (OpenSpec.ofChange fnExactLongestWayWrong)

/-- 'laws.FnExactLeastCounter': WHATEVER THE INPUT: true; the input reads as it did. -/
def fnExactLeastCounterSpec : ChangeSpec := { name := "fnExactLeastCounter", fn := fun _ => fun
  | [d1, d2] => { results := [.lit (.bool true)], args := [d1, d2] }
  | _ => none }
def fnExactLeastCounterRow : OpenClaim := { program := "ytedmhdinfedhhaa", sum := "73510e99b411ec99bc9253203b4d15bee3ae270e9112e638f5d36fb1638f4a6b", func := "loop.example/g01105/laws.FnExactLeastCounter", spec := "fnExactLeastCounter", unfollowed := true, recurses := true, apart := false }
def FnExactLeastCounterSaid : Prop := fnExactLeastCounterRow.holds Try.pinned (OpenSpec.ofChange fnExactLeastCounterSpec)

/-- ITS FALSE NEIGHBOUR: 'it returns false'. Refute it at one input. -/
def fnExactLeastCounterWrong : ChangeSpec := { name := "fnExactLeastCounter", fn := fun _ => fun
  | [d1, d2] => { results := [.lit (.bool false)], args := [d1, d2] }
  | _ => none }
def FnExactLeastCounterWrongFalsely : Prop := fnExactLeastCounterRow.holds Try.pinned (OpenSpec.ofChange fnExactLeastCounterWrong)

/-- 'laws.FnExactRefuteFacts': WHATEVER THE INPUT: true; the input reads as it did. -/
def fnExactRefuteFactsSpec : ChangeSpec := { name := "fnExactRefuteFacts", fn := fun _ => fun
  | [d] => { results := [.lit (.bool true)], args := [d] }
  | _ => none }
def fnExactRefuteFactsRow : OpenClaim := { program := "ytedmhdinfedhhaa", sum := "73510e99b411ec99bc9253203b4d15bee3ae270e9112e638f5d36fb1638f4a6b", func := "loop.example/g01105/laws.FnExactRefuteFacts", spec := "fnExactRefuteFacts", apart := false }
def FnExactRefuteFactsSaid : Prop := fnExactRefuteFactsRow.holds Try.pinned (OpenSpec.ofChange fnExactRefuteFactsSpec)

/-- ITS FALSE NEIGHBOUR: 'it returns false'. Refute it at one input. -/
def fnExactRefuteFactsWrong : ChangeSpec := { name := "fnExactRefuteFacts", fn := fun _ => fun
  | [d] => { results := [.lit (.bool false)], args := [d] }
  | _ => none }
def FnExactRefuteFactsWrongFalsely : Prop := fnExactRefuteFactsRow.holds Try.pinned (OpenSpec.ofChange fnExactRefuteFactsWrong)

/-- 'laws.FnExactLeastOf': WHATEVER THE INPUT: true; the input reads as it did. -/
def fnExactLeastOfSpec : ChangeSpec := { name := "fnExactLeastOf", fn := fun _ => fun
  | [d1, d2] => { results := [.lit (.bool true)], args := [d1, d2] }
  | _ => none }
def fnExactLeastOfRow : OpenClaim := { program := "ytedmhdinfedhhaa", sum := "73510e99b411ec99bc9253203b4d15bee3ae270e9112e638f5d36fb1638f4a6b", func := "loop.example/g01105/laws.FnExactLeastOf", spec := "fnExactLeastOf", apart := false }
def FnExactLeastOfSaid : Prop := fnExactLeastOfRow.holds Try.pinned (OpenSpec.ofChange fnExactLeastOfSpec)

/-- ITS FALSE NEIGHBOUR: 'it returns false'. Refute it at one input. -/
def fnExactLeastOfWrong : ChangeSpec := { name := "fnExactLeastOf", fn := fun _ => fun
  | [d1, d2] => { results := [.lit (.bool false)], args := [d1, d2] }
  | _ => none }
def FnExactLeastOfWrongFalsely : Prop := fnExactLeastOfRow.holds Try.pinned (OpenSpec.ofChange fnExactLeastOfWrong)

/-- 'laws.FnExactEventsIn': WHATEVER THE INPUT: true; the input reads as it did. -/
def fnExactEventsInSpec : ChangeSpec := { name := "fnExactEventsIn", fn := fun _ => fun
  | [d] => { results := [.lit (.bool true)], args := [d] }
  | _ => none }
def fnExactEventsInRow : OpenClaim := { program := "ytedmhdinfedhhaa", sum := "73510e99b411ec99bc9253203b4d15bee3ae270e9112e638f5d36fb1638f4a6b", func := "loop.example/g01105/laws.FnExactEventsIn", spec := "fnExactEventsIn", unfollowed := true, recurses := true, apart := false }
def FnExactEventsInSaid : Prop := fnExactEventsInRow.holds Try.pinned (OpenSpec.ofChange fnExactEventsInSpec)

/-- ITS FALSE NEIGHBOUR: 'it returns false'. Refute it at one input. -/
def fnExactEventsInWrong : ChangeSpec := { name := "fnExactEventsIn", fn := fun _ => fun
  | [d] => { results := [.lit (.bool false)], args := [d] }
  | _ => none }
def FnExactEventsInWrongFalsely : Prop := fnExactEventsInRow.holds Try.pinned (OpenSpec.ofChange fnExactEventsInWrong)

/- THE SECOND FORM. 'bulk': how many values and letters a reading holds, each counted each time it is reached (what is shared counts as often as it is met; a slice's spare places count too). A statement '..UptoSaid' is the law's where the arguments, and the package variables that the reading takes, are together of bulk at most 1048576: NARROWER than '..Said'. Prove '..Said' where nothing that the law and all that it calls make is longer than what came in: it says more and counts as full. Else prove '..UptoSaid'. A law counts once. -/
mutual
def uptoBulk {H : Type} : DataW H → Nat
  | .lit (.string bytes) => bytes.length + 1
  | .lit _ => 1
  | .nil => 1
  | .ptr d => uptoBulk d + 1
  | .slice elems spare => uptoBulkAll elems + uptoBulkAll spare + 1
  | .agg parts => uptoBulkAll parts + 1
  | .iface _ d => uptoBulk d + 1
  | .map entries => uptoBulkEntries entries + 1
  | .held _ => 1
def uptoBulkAll {H : Type} : List (DataW H) → Nat
  | [] => 0
  | d :: r => uptoBulk d + uptoBulkAll r
def uptoBulkEntries {H : Type} : List (Lit × DataW H) → Nat
  | [] => 0
  | x :: r => uptoBulkEntry x + uptoBulkEntries r
def uptoBulkEntry {H : Type} : Lit × DataW H → Nat
  | (.string bytes, d) => bytes.length + uptoBulk d + 1
  | (_, d) => uptoBulk d + 1
 end
def uptoSmall : (H : Type) → List (DataW H) → Bool := fun _ ds => decide (uptoBulkAll ds ≤ 1048576)
def OpenSpec.upto (s : _root_.Go.ChangeSpec) : _root_.Go.OpenSpec := { _root_.Go.OpenSpec.ofChange s with cond := some uptoSmall }

/-- 'laws.FnExactHeightsOf', WHERE WHAT IT READS IS OF BULK AT MOST 1048576: true; the input reads as it did. -/
def fnExactHeightsOfUptoRow : OpenClaim := { program := "ytedmhdinfedhhaa", sum := "73510e99b411ec99bc9253203b4d15bee3ae270e9112e638f5d36fb1638f4a6b", func := "loop.example/g01105/laws.FnExactHeightsOf", spec := "fnExactHeightsOf", unfollowed := true, recurses := true, apart := false, narrowed := true }
def FnExactHeightsOfUptoSaid : Prop := fnExactHeightsOfUptoRow.holds Try.pinned (OpenSpec.upto fnExactHeightsOfSpec)

/-- 'laws.FnExactOpenLoops', WHERE WHAT IT READS IS OF BULK AT MOST 1048576: true; the input reads as it did. -/
def fnExactOpenLoopsUptoRow : OpenClaim := { program := "ytedmhdinfedhhaa", sum := "73510e99b411ec99bc9253203b4d15bee3ae270e9112e638f5d36fb1638f4a6b", func := "loop.example/g01105/laws.FnExactOpenLoops", spec := "fnExactOpenLoops", unfollowed := true, recurses := true, apart := false, narrowed := true }
def FnExactOpenLoopsUptoSaid : Prop := fnExactOpenLoopsUptoRow.holds Try.pinned (OpenSpec.upto fnExactOpenLoopsSpec)

/-- 'laws.FnExactLongestWay', WHERE WHAT IT READS IS OF BULK AT MOST 1048576: true; the input reads as it did. -/
def fnExactLongestWayUptoRow : OpenClaim := { program := "ytedmhdinfedhhaa", sum := "73510e99b411ec99bc9253203b4d15bee3ae270e9112e638f5d36fb1638f4a6b", func := "loop.example/g01105/laws.FnExactLongestWay", spec := "fnExactLongestWay", unfollowed := true, recurses := true, apart := false, narrowed := true }
def FnExactLongestWayUptoSaid : Prop := fnExactLongestWayUptoRow.holds Try.pinned (OpenSpec.upto fnExactLongestWaySpec)

/-- 'laws.FnExactLeastCounter', WHERE WHAT IT READS IS OF BULK AT MOST 1048576: true; the input reads as it did. -/
def fnExactLeastCounterUptoRow : OpenClaim := { program := "ytedmhdinfedhhaa", sum := "73510e99b411ec99bc9253203b4d15bee3ae270e9112e638f5d36fb1638f4a6b", func := "loop.example/g01105/laws.FnExactLeastCounter", spec := "fnExactLeastCounter", unfollowed := true, recurses := true, apart := false, narrowed := true }
def FnExactLeastCounterUptoSaid : Prop := fnExactLeastCounterUptoRow.holds Try.pinned (OpenSpec.upto fnExactLeastCounterSpec)

/-- 'laws.FnExactRefuteFacts', WHERE WHAT IT READS IS OF BULK AT MOST 1048576: true; the input reads as it did. -/
def fnExactRefuteFactsUptoRow : OpenClaim := { program := "ytedmhdinfedhhaa", sum := "73510e99b411ec99bc9253203b4d15bee3ae270e9112e638f5d36fb1638f4a6b", func := "loop.example/g01105/laws.FnExactRefuteFacts", spec := "fnExactRefuteFacts", apart := false, narrowed := true }
def FnExactRefuteFactsUptoSaid : Prop := fnExactRefuteFactsUptoRow.holds Try.pinned (OpenSpec.upto fnExactRefuteFactsSpec)

/-- 'laws.FnExactLeastOf', WHERE WHAT IT READS IS OF BULK AT MOST 1048576: true; the input reads as it did. -/
def fnExactLeastOfUptoRow : OpenClaim := { program := "ytedmhdinfedhhaa", sum := "73510e99b411ec99bc9253203b4d15bee3ae270e9112e638f5d36fb1638f4a6b", func := "loop.example/g01105/laws.FnExactLeastOf", spec := "fnExactLeastOf", apart := false, narrowed := true }
def FnExactLeastOfUptoSaid : Prop := fnExactLeastOfUptoRow.holds Try.pinned (OpenSpec.upto fnExactLeastOfSpec)

/-- 'laws.FnExactEventsIn', WHERE WHAT IT READS IS OF BULK AT MOST 1048576: true; the input reads as it did. -/
def fnExactEventsInUptoRow : OpenClaim := { program := "ytedmhdinfedhhaa", sum := "73510e99b411ec99bc9253203b4d15bee3ae270e9112e638f5d36fb1638f4a6b", func := "loop.example/g01105/laws.FnExactEventsIn", spec := "fnExactEventsIn", unfollowed := true, recurses := true, apart := false, narrowed := true }
def FnExactEventsInUptoSaid : Prop := fnExactEventsInUptoRow.holds Try.pinned (OpenSpec.upto fnExactEventsInSpec)

end Rows
end Go.Proofs.Ytedmhdinfedhhaa
