/- A call of a disk's law, opened. -/
import Derived.Test.YtfmpafheodpfoaaLiftB
import Derived.Test.YtfmpafheodpfoaaDiskOp
namespace Go.Proofs.Ytfmpafheodpfoaa
open Go.ChangeShapes Go.WideShapes Go.ChangeAt Go.RowKit
def DOp.ok (o : DOp) : Prop := (-9223372036854775808 ≤ o.kind ∧ o.kind ≤ 9223372036854775807) ∧ (-9223372036854775808 ≤ o.i ∧ o.i ≤ 9223372036854775807) ∧ (-9223372036854775808 ≤ o.n ∧ o.n ≤ 9223372036854775807) ∧ (-9223372036854775808 ≤ o.tn ∧ o.tn ≤ 9223372036854775807) ∧ (-9223372036854775808 ≤ o.at' ∧ o.at' ≤ 9223372036854775807)
set_option maxRecDepth 100000 in
theorem el_fate {H : Type} {enc : TypeId × Value → H} {w : World} (n : Nat) (cs : List Value) (x : DataW H × List MemPlace) (hl : cs.length = 3)
    (h : DataW.trod enc Try.prog w 0 (fun _ => true) true n 34 cs = some x) : ∃ (kv : Value) (keep : List UInt8) (tn at' : Int), cs = [kv, .int .i64 tn, .int .i64 at'] ∧ Bytes 0 w.heap.size w kv keep ∧ (-9223372036854775808 ≤ tn ∧ tn ≤ 9223372036854775807) ∧ (-9223372036854775808 ≤ at' ∧ at' ≤ 9223372036854775807) := by
  obtain ⟨xs, m, _, _, _, hxl, hf⟩ := DataW.trod_struct Try.underlying34 h
  have k1 : Try.prog.cellsOf 3 = 1 := by kernel_rfl
  have k3 : Try.prog.cellsOf 30 = 1 := by kernel_rfl
  match cs, hl with
  | [c0, c1, c2], _ =>
    match xs, hxl with
    | [y0, y1, y2], _ =>
      have g0 := hf 0 _ rfl
      have g1 := hf 1 _ rfl
      have g2 := hf 2 _ rfl
      simp [k1, k3] at g0 g1 g2
      obtain ⟨l0, s0, -⟩ := open_sl (α := UInt8) (E := flat bE) (ok := fun _ => True) Try.underlying30 (size := 1) (by kernel_rfl) (by decide) el_byte g0
      obtain ⟨i, e1, -, b1⟩ := DataW.trod_int Try.underlying3 g1
      obtain ⟨j, e2, -, b2⟩ := DataW.trod_int Try.underlying3 g2
      simp at e1 e2
      subst e1 e2
      exact ⟨c0, l0, i, j, rfl, s0, bd_i64 b1, bd_i64 b2⟩
set_option maxRecDepth 100000 in
theorem el_op {H : Type} {enc : TypeId × Value → H} {w : World} (n : Nat) (cs : List Value) (x : DataW H × List MemPlace) (hl : cs.length = 8)
    (h : DataW.trod enc Try.prog w 0 (fun _ => true) true n 36 cs = some x) : ∃ a : DOp, opE 0 w.heap.size w cs a ∧ a.ok := by
  obtain ⟨xs, m, _, _, _, hxl, hf⟩ := DataW.trod_struct Try.underlying36 h
  have k1 : Try.prog.cellsOf 3 = 1 := by kernel_rfl
  have k2 : Try.prog.cellsOf 4 = 1 := by kernel_rfl
  have k3 : Try.prog.cellsOf 30 = 1 := by kernel_rfl
  have k4 : Try.prog.cellsOf 34 = 3 := by kernel_rfl
  match cs, hl with
  | [c0, c1, c2, c3, c4, c5, c6, c7], _ =>
    match xs, hxl with
    | [y0, y1, y2, y3, y4, y5], _ =>
      have g0 := hf 0 _ rfl
      have g1 := hf 1 _ rfl
      have g2 := hf 2 _ rfl
      have g3 := hf 3 _ rfl
      have g4 := hf 4 _ rfl
      have g5 := hf 5 _ rfl
      simp [k1, k2, k3, k4] at g0 g1 g2 g3 g4 g5
      obtain ⟨i0, e0, -, b0⟩ := DataW.trod_int Try.underlying3 g0
      obtain ⟨i1, e1, -, b1⟩ := DataW.trod_int Try.underlying3 g1
      obtain ⟨i2, e2, -, b2⟩ := DataW.trod_int Try.underlying3 g2
      obtain ⟨l3, s3, -⟩ := open_sl (α := UInt8) (E := flat bE) (ok := fun _ => True) Try.underlying30 (size := 1) (by kernel_rfl) (by decide) el_byte g3
      obtain ⟨b, e4, -⟩ := DataW.trod_bool Try.underlying4 g4
      obtain ⟨kv, keep, tn, at', e5, s5, b5, b6⟩ := el_fate m _ _ rfl g5
      simp at e0 e1 e2 e4 e5
      obtain ⟨rfl, rfl, rfl⟩ := e5
      subst e0 e1 e2 e4
      exact ⟨⟨i0, i1, i2, l3, b, keep, tn, at'⟩, ⟨c3, c5, rfl, s3, s5⟩, bd_i64 b0, bd_i64 b1, bd_i64 b2, b5, b6⟩
end Go.Proofs.Ytfmpafheodpfoaa
