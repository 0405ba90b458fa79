/- Truth values of an argument, opened. -/
import Derived.Test.YtkcpanaojehgiaaLiftG
import Derived.Test.YtkcpanaojehgiaaLesA
namespace Go.Proofs.Ytkcpanaojehgiaa
open Go.ChangeShapes Go.WideShapes Go.ChangeAt Go.RowKit
set_option maxRecDepth 100000 in
theorem el_bl {H : Type} {enc : TypeId × Value → H} {w : World} (n : Nat) (cs : List Value) (x : DataW H × List MemPlace) (hl : cs.length = 1)
    (h : DataW.trod enc Try.prog w 0 (fun _ => true) true n 4 cs = some x) : ∃ a : Bool, flat blE 0 w.heap.size w cs a ∧ True := by
  match cs, hl with
  | [c0], _ =>
    obtain ⟨i, e0, -⟩ := DataW.trod_bool Try.underlying4 h
    simp at e0
    subst e0
    exact ⟨i, rfl, trivial⟩
end Go.Proofs.Ytkcpanaojehgiaa
