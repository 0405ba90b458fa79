/- A byte of an argument, opened. -/
import Derived.Test.YtfmpafheodpfoaaLift
namespace Go.Proofs.Ytfmpafheodpfoaa
open Go.ChangeShapes Go.WideShapes Go.ChangeAt Go.RowKit
instance : Inhabited UInt8 := ⟨0⟩
set_option maxRecDepth 100000 in
theorem el_byte {H : Type} {enc : TypeId × Value → H} {w : World} (n : Nat) (cs : List Value) (x : DataW H × List MemPlace) (hl : cs.length = 1)
    (h : DataW.trod enc Try.prog w 0 (fun _ => true) true n 5 cs = some x) : ∃ a : UInt8, flat bE 0 w.heap.size w cs a ∧ True := by
  match cs, hl with
  | [c0], _ =>
    obtain ⟨i, e0, -, b0⟩ := DataW.trod_int Try.underlying5 h
    simp at e0
    have b := bd_u8 b0
    refine ⟨UInt8.ofNat i.toNat, ?_, trivial⟩
    have e : ((UInt8.ofNat i.toNat).toNat : Int) = i := by simp only [UInt8.toNat_ofNat']; omega
    subst e0
    show [Value.int .u8 i] = [Value.int .u8 _]
    rw [e]
end Go.Proofs.Ytfmpafheodpfoaa
