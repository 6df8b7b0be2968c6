/- Contracts of chapter 3: states, and the laws' helpers over states. -/
import Derived.Test.YtkckhnpdodbffaaL02
import Derived.Test.YtkckhnpdodbffaaHlp
namespace Go.Proofs.Ytkckhnpdodbffaa
open Go.RowKit

def numsOk (zs : List Int) (n : Nat) : Bool := decide (zs.length = n) && allIn zs (-1000000000) 1000000000
def validState (s : St) : Bool := numsOk s.1 4 && numsOk s.2 8

def RetState (s : St) (w : World) (e : Ending) (w' : World) : Prop :=
  ∃ a cap b cap', e = .returned (.agg #[.slice a s.1.length cap, .slice b s.2.length cap']) ∧ SlRd cInt (Fresh w.heap.size w') w' a cap s.1 ∧ SlRd cInt (Fresh w.heap.size w') w' b cap' s.2 ∧ Below w.heap.size w w'
end Go.Proofs.Ytkckhnpdodbffaa
