/- A call of a tree's law, opened. -/
import Derived.Test.YtmlcnfomiemdpaaLiftB
import Derived.Test.YtmlcnfomiemdpaaTreeO
namespace Go.Proofs.Ytmlcnfomiemdpaa
open Go.ChangeShapes Go.WideShapes Go.ChangeAt Go.RowKit
theorem bd_u16 {n : Int} (h : (Lit.int .u16 n).wf = true) : 0 ≤ n ∧ n ≤ 65535 := by simpa [Lit.wf, IntKind.min, IntKind.max, IntKind.signed, IntKind.bits] using h
theorem bd_u32 {n : Int} (h : (Lit.int .u32 n).wf = true) : 0 ≤ n ∧ n ≤ 4294967295 := by simpa [Lit.wf, IntKind.min, IntKind.max, IntKind.signed, IntKind.bits] using h
def OpV.ok (o : OpV) : Prop := (-9223372036854775808 ≤ o.kind ∧ o.kind ≤ 9223372036854775807) ∧ (0 ≤ o.frm ∧ o.frm ≤ 65535) ∧ (-9223372036854775808 ≤ o.n ∧ o.n ≤ 9223372036854775807)
set_option maxRecDepth 100000 in
theorem el_op {H : Type} {enc : TypeId × Value → H} {w : World} (n : Nat) (cs : List Value) (x : DataW H × List MemPlace) (hl : cs.length = 6)
    (h : DataW.trod enc Try.prog w 0 (fun _ => true) true n 32 cs = some x) : ∃ a : OpV, opE 0 w.heap.size w cs a ∧ a.ok := by
  obtain ⟨xs, m, _, _, _, hxl, hf⟩ := DataW.trod_struct Try.underlying32 h
  have k1 : Try.prog.cellsOf 3 = 1 := by kernel_rfl
  have k2 : Try.prog.cellsOf 29 = 1 := by kernel_rfl
  have k3 : Try.prog.cellsOf 30 = 1 := by kernel_rfl
  match cs, hl with
  | [c0, c1, c2, c3, c4, c5], _ =>
    match xs, hxl with
    | [y0, y1, y2, y3, y4, y5], _ =>
      have g0 := hf 0 _ rfl
      have g1 := hf 1 _ rfl
      have g2 := hf 2 _ rfl
      have g3 := hf 3 _ rfl
      have g4 := hf 4 _ rfl
      have g5 := hf 5 _ rfl
      simp [k1, k2, k3] at g0 g1 g2 g3 g4 g5
      obtain ⟨i, e0, -, b0⟩ := DataW.trod_int Try.underlying3 g0
      obtain ⟨f, e1, -, b1⟩ := DataW.trod_int Try.underlying29 g1
      obtain ⟨l2, s2, -⟩ := open_sl (α := UInt8) (E := flat bE) (ok := fun _ => True) Try.underlying30 (size := 1) (by kernel_rfl) (by decide) el_byte g2
      obtain ⟨l3, s3, -⟩ := open_sl (α := UInt8) (E := flat bE) (ok := fun _ => True) Try.underlying30 (size := 1) (by kernel_rfl) (by decide) el_byte g3
      obtain ⟨l4, s4, -⟩ := open_sl (α := UInt8) (E := flat bE) (ok := fun _ => True) Try.underlying30 (size := 1) (by kernel_rfl) (by decide) el_byte g4
      obtain ⟨j, e5, -, b5⟩ := DataW.trod_int Try.underlying3 g5
      simp at e0 e1 e5
      subst e0 e1 e5
      exact ⟨⟨i, f, l2, l3, l4, j⟩, ⟨c2, c3, c4, rfl, s2, s3, s4⟩, bd_i64 b0, bd_u16 b1, bd_i64 b5⟩
end Go.Proofs.Ytmlcnfomiemdpaa
