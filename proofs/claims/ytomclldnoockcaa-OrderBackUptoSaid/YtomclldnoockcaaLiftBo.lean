/- A bool of an argument, opened. -/
import Derived.Test.YtomclldnoockcaaLift
import Derived.Test.YtomclldnoockcaaParts
namespace Go.Proofs.Ytomclldnoockcaa
open Go.ChangeShapes Go.WideShapes Go.ChangeAt Go.RowKit
set_option maxRecDepth 100000 in
theorem el_bool {H : Type} {enc : TypeId × Value → H} {w : World} (n : Nat) (cs : List Value) (x : DataW H × List MemPlace) (hl : cs.length = 1)
    (h : DataW.trod enc Try.prog w 0 (fun _ => true) true n 4 cs = some x) : ∃ a : Bool, flat bo 0 w.heap.size w cs a ∧ True := by
  obtain ⟨b, e0, -⟩ := DataW.trod_bool Try.underlying4 h
  exact ⟨b, e0, trivial⟩
end Go.Proofs.Ytomclldnoockcaa
