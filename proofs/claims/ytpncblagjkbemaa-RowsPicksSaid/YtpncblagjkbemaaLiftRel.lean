/- A relation of an argument, opened. -/
import Derived.Test.YtpncblagjkbemaaLiftR
namespace Go.Proofs.Ytpncblagjkbemaa
open Go.ChangeShapes Go.WideShapes Go.ChangeAt Go.RowKit
/-- A relation in memory. -/
def RelIn (w : World) (v : Value) (p : List S × List (List V)) : Prop := ∃ ac cc lv, v = .agg #[.slice ac p.1.length cc, lv] ∧ Strs 0 w.heap.size w (.slice ac p.1.length cc) p.1 ∧ Rws 0 w.heap.size w lv p.2
def relOk (p : List S × List (List V)) : Prop := ∀ x ∈ p.2, rowOk x
set_option maxRecDepth 100000 in
theorem el_rel {H : Type} {enc : TypeId × Value → H} {w : World} (n : Nat) (cs : List Value) (x : DataW H × List MemPlace) (hl : cs.length = 2)
    (h : DataW.trod enc Try.prog w 0 (fun _ => true) true n 34 cs = some x) : ∃ p : List S × List (List V), RelIn w (.agg cs.toArray) p ∧ relOk p := by
  obtain ⟨xs, m, _, _, _, hxl, hf⟩ := DataW.trod_struct Try.underlying34 h
  have k1 : Try.prog.cellsOf 31 = 1 := by kernel_rfl
  have k2 : Try.prog.cellsOf 32 = 1 := by kernel_rfl
  match cs, hl with
  | [c0, c1], _ =>
    match xs, hxl with
    | [y0, y1], _ =>
      have g0 := hf 0 _ rfl
      have g1 := hf 1 _ rfl
      simp [k1, k2] at g0 g1
      obtain ⟨l0, s0, o0⟩ := open_sl (α := S) (E := flat strE) (ok := colOk) Try.underlying31 (size := 1) (by kernel_rfl) (by decide) el_col g0
      obtain ⟨l1, s1, o1⟩ := open_sl (α := List V) (E := rowE) (ok := rowOk) Try.underlying32 (size := 1) (by kernel_rfl) (by decide) el_row g1
      have s0' := s0
      obtain ⟨ac, cc, rfl, -, -, -, -⟩ := s0'.form
      exact ⟨(l0, l1), ⟨ac, cc, c1, rfl, s0, s1⟩, o1⟩
set_option maxRecDepth 100000 in
theorem open_rel {H : Type} {enc : TypeId × Value → H} {w : World} {base : Nat} {v : Value} {x : DataW H × List MemPlace} (hv : Value.okWide Try.prog w .any base 34 v)
    (h : ∃ n, DataW.trod enc Try.prog w 0 (fun _ => true) true n 34 v.cells.toList = some x) : ∃ p : List S × List (List V), RelIn w v p ∧ relOk p := by
  obtain ⟨cs, rfl, z⟩ := okWide_struct Try.underlying34 hv
  obtain ⟨n, h⟩ := h
  have k : Try.prog.cellsOf 34 = 2 := by kernel_rfl
  obtain ⟨p, hp, ho⟩ := el_rel n _ _ (by rw [← k, ← z]; simp [Value.cells]) h
  refine ⟨p, ?_, ho⟩
  simpa [Value.cells] using hp
end Go.Proofs.Ytpncblagjkbemaa
