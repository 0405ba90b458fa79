/- Columns and rows of an argument, opened. -/
import Derived.Test.YtpncblagjkbemaaLift
import Derived.Test.YtpncblagjkbemaaRowC
namespace Go.Proofs.Ytpncblagjkbemaa
open Go.ChangeShapes Go.WideShapes Go.ChangeAt Go.RowKit
def colOk (s : S) : Prop := s.length ≤ 9223372036854775807
def valOk (v : V) : Prop := v.s.length ≤ 9223372036854775807
def rowOk (x : List V) : Prop := ∀ a ∈ x, valOk a
set_option maxRecDepth 100000 in
theorem el_col {H : Type} {enc : TypeId × Value → H} {w : World} (n : Nat) (cs : List Value) (x : DataW H × List MemPlace) (hl : cs.length = 1)
    (h : DataW.trod enc Try.prog w 0 (fun _ => true) true n 9 cs = some x) : ∃ a : S, flat strE 0 w.heap.size w cs a ∧ colOk a := by
  match cs, hl with
  | [c0], _ =>
    obtain ⟨s, e0, -, b0⟩ := DataW.trod_string Try.underlying9 h
    simp at e0
    have hlen : s.data.toList.length = s.size := by rw [Array.length_toList]; rfl
    subst e0
    exact ⟨s.data.toList, rfl, by unfold colOk; rw [hlen]; simp only [maxLen] at b0; omega⟩
set_option maxRecDepth 100000 in
theorem el_valR {H : Type} {enc : TypeId × Value → H} {w : World} (n : Nat) (cs : List Value) (x : DataW H × List MemPlace) (hl : cs.length = 3)
    (h : DataW.trod enc Try.prog w 0 (fun _ => true) true n 24 cs = some x) : ∃ a : V, flat V.enc 0 w.heap.size w cs a ∧ valOk a := by
  obtain ⟨xs, m, _, _, _, hxl, hf⟩ := DataW.trod_struct Try.underlying24 h
  have k1 : Try.prog.cellsOf 2 = 1 := by kernel_rfl
  have k2 : Try.prog.cellsOf 9 = 1 := by kernel_rfl
  have k3 : Try.prog.cellsOf 3 = 1 := by kernel_rfl
  match cs, hl with
  | [c0, c1, c2], _ =>
    match xs, hxl with
    | [y0, y1, y2], _ =>
      have g0 := hf 0 _ rfl
      have g1 := hf 1 _ rfl
      have g2 := hf 2 _ rfl
      simp [k1, k2, k3] at g0 g1 g2
      obtain ⟨i, e0, -, b0⟩ := DataW.trod_int Try.underlying3 g0
      obtain ⟨t, e1, -, b1⟩ := DataW.trod_int Try.underlying2 g1
      obtain ⟨s, e2, -, b2⟩ := DataW.trod_string Try.underlying9 g2
      simp at e0 e1 e2
      have hlen : s.data.toList.length = s.size := by rw [Array.length_toList]; rfl
      exact ⟨⟨i, t, s.data.toList⟩, by simp [flat, V.enc, *], by unfold valOk; rw [hlen]; simp only [maxLen] at b2; omega⟩
set_option maxRecDepth 100000 in
theorem el_row {H : Type} {enc : TypeId × Value → H} {w : World} (n : Nat) (cs : List Value) (x : DataW H × List MemPlace) (hl : cs.length = 1)
    (h : DataW.trod enc Try.prog w 0 (fun _ => true) true n 42 cs = some x) : ∃ a : List V, rowE 0 w.heap.size w cs a ∧ rowOk a := by
  match cs, hl with
  | [c0], _ =>
    obtain ⟨l, s3, b3⟩ := open_sl (α := V) (E := flat V.enc) (ok := valOk) Try.underlying42 (size := 3) (by kernel_rfl) (by decide) el_valR h
    exact ⟨l, ⟨c0, rfl, s3⟩, b3⟩
end Go.Proofs.Ytpncblagjkbemaa
