/- Parts of an argument, opened, with their bulk. -/
import Derived.Test.YtomclldnoockcaaLiftK
import Derived.Test.YtomclldnoockcaaGreat
namespace Go.Proofs.Ytomclldnoockcaa
open Go.ChangeShapes Go.WideShapes Go.ChangeAt Go.RowKit
def Pt.okay (p : Pt) : Prop := (-9223372036854775808 ≤ p.n ∧ p.n ≤ 9223372036854775807) ∧ (-9223372036854775808 ≤ p.v.kind ∧ p.v.kind ≤ 9223372036854775807) ∧ (-9223372036854775808 ≤ p.v.n ∧ p.v.n ≤ 9223372036854775807)
set_option maxRecDepth 100000 in
theorem el_val {H : Type} {enc : TypeId × Value → H} {w : World} (n : Nat) (cs : List Value) (x : DataW H × List MemPlace) (hl : cs.length = 3)
    (h : DataW.trod enc Try.prog w 0 (fun _ => true) true n 37 cs = some x) : ∃ a : V, cs = V.enc a ∧ ((-9223372036854775808 ≤ a.kind ∧ a.kind ≤ 9223372036854775807) ∧ (-9223372036854775808 ≤ a.n ∧ a.n ≤ 9223372036854775807)) ∧ a.s.length + 4 ≤ Rows.uptoBulk x.1 := by
  obtain ⟨xs, m, _, hx, _, hxl, hf⟩ := DataW.trod_struct Try.underlying37 h
  have k1 : Try.prog.cellsOf 2 = 1 := by kernel_rfl
  have k2 : Try.prog.cellsOf 9 = 1 := by kernel_rfl
  have k3 : Try.prog.cellsOf 3 = 1 := by kernel_rfl
  match cs, hl with
  | [c0, c1, c2], _ =>
    match xs, hxl with
    | [y0, y1, y2], _ =>
      have g0 := hf 0 _ rfl
      have g1 := hf 1 _ rfl
      have g2 := hf 2 _ rfl
      simp [k1, k2, k3] at g0 g1 g2
      obtain ⟨i, e0, -, b0⟩ := DataW.trod_int Try.underlying3 g0
      obtain ⟨t, e1, -, b1⟩ := DataW.trod_int Try.underlying2 g1
      obtain ⟨s, e2, q2, b2⟩ := DataW.trod_string Try.underlying9 g2
      simp at e0 e1 e2
      refine ⟨⟨i, t, s.data.toList⟩, by simp [V.enc, *], ⟨bd_i64 b0, bd_i64 b1⟩, ?_⟩
      have h0 := bulk_one y0.1
      have h1 := bulk_one y1.1
      rw [hx, q2]
      simp only [List.map_cons, List.map_nil, Rows.uptoBulk, Rows.uptoBulkAll]
      omega
set_option maxRecDepth 100000 in
theorem el_part {H : Type} {enc : TypeId × Value → H} {w : World} (n : Nat) (cs : List Value) (x : DataW H × List MemPlace) (hl : cs.length = 5)
    (h : DataW.trod enc Try.prog w 0 (fun _ => true) true n 39 cs = some x) : ∃ a : Pt, flat Pt.enc 0 w.heap.size w cs a ∧ a.okay ∧ a.v.s.length + 7 ≤ Rows.uptoBulk x.1 := by
  obtain ⟨xs, m, _, hx, _, hxl, hf⟩ := DataW.trod_struct Try.underlying39 h
  have k1 : Try.prog.cellsOf 4 = 1 := by kernel_rfl
  have k2 : Try.prog.cellsOf 2 = 1 := by kernel_rfl
  have k3 : Try.prog.cellsOf 37 = 3 := by kernel_rfl
  match cs, hl with
  | [c0, c1, c2, c3, c4], _ =>
    match xs, hxl with
    | [y0, y1, y2], _ =>
      have g0 := hf 0 _ rfl
      have g1 := hf 1 _ rfl
      have g2 := hf 2 _ rfl
      simp [k1, k2, k3] at g0 g1 g2
      obtain ⟨i, e0, -⟩ := DataW.trod_bool Try.underlying4 g0
      obtain ⟨t, e1, -, b1⟩ := DataW.trod_int Try.underlying2 g1
      obtain ⟨a, e2, ⟨b2, b3⟩, hb⟩ := el_val _ _ _ rfl g2
      simp [V.enc] at e0 e1 e2
      refine ⟨⟨i, t, a⟩, by simp [flat, Pt.enc, *], ⟨bd_i64 b1, b2, b3⟩, ?_⟩
      have h0 := bulk_one y0.1
      have h1 := bulk_one y1.1
      rw [hx]
      simp only [List.map_cons, List.map_nil, Rows.uptoBulk, Rows.uptoBulkAll]
      omega
theorem sumP_bulk (l : List Pt) : sumP l ≤ 2 * (l.map fun p => p.v.s.length + 7).sum := by
  induction l with
  | nil => simp [sumP]
  | cons p r ih => simp only [sumP, List.map_cons, List.sum_cons]; omega
end Go.Proofs.Ytomclldnoockcaa
