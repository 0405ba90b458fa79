/- Facts of an argument, opened. -/
import Derived.Test.YtkcpanaojehgiaaLift
import Derived.Test.YtkcpanaojehgiaaSchP
import Derived.SizedLaws
namespace Go.Proofs.Ytkcpanaojehgiaa
open Go.ChangeShapes Go.WideShapes Go.ChangeAt Go.RowKit
def in64 (n : Int) : Prop := -9223372036854775808 ≤ n ∧ n ≤ 9223372036854775807
def Sp.ok (s : Sp) : Prop := in64 s.f ∧ in64 s.t
def V.fine (v : V) : Prop := in64 v.kind ∧ in64 v.n ∧ v.s.length ≤ 9223372036854775807
def Ft.ok (x : Ft) : Prop := in64 x.e ∧ in64 x.a ∧ x.v.fine ∧ ∀ s ∈ x.sp, s.ok
set_option maxRecDepth 100000 in
theorem el_sp {H : Type} {enc : TypeId × Value → H} {w : World} (n : Nat) (cs : List Value) (x : DataW H × List MemPlace) (hl : cs.length = 2)
    (h : DataW.trod enc Try.prog w 0 (fun _ => true) true n 58 cs = some x) : ∃ a : Sp, flat Sp.enc 0 w.heap.size w cs a ∧ a.ok := by
  obtain ⟨xs, m, _, _, _, hxl, hf⟩ := DataW.trod_struct Try.underlying58 h
  have k1 : Try.prog.cellsOf 2 = 1 := by kernel_rfl
  match cs, hl with
  | [c0, c1], _ =>
    match xs, hxl with
    | [y0, y1], _ =>
      have g0 := hf 0 _ rfl
      have g1 := hf 1 _ rfl
      simp [k1] at g0 g1
      obtain ⟨i, e0, -, b0⟩ := DataW.trod_int Try.underlying2 g0
      obtain ⟨j, e1, -, b1⟩ := DataW.trod_int Try.underlying2 g1
      simp at e0 e1
      subst e0 e1
      exact ⟨⟨i, j⟩, rfl, bd_i64 b0, bd_i64 b1⟩
set_option maxRecDepth 100000 in
theorem el_val {H : Type} {enc : TypeId × Value → H} {w : World} (n : Nat) (cs : List Value) (x : DataW H × List MemPlace) (hl : cs.length = 3)
    (h : DataW.trod enc Try.prog w 0 (fun _ => true) true n 47 cs = some x) : ∃ a : V, cs = [.int .i64 a.kind, .int .i64 a.n, .string ⟨a.s.toArray⟩] ∧ a.fine := by
  obtain ⟨xs, m, _, _, _, hxl, hf⟩ := DataW.trod_struct Try.underlying47 h
  have k1 : Try.prog.cellsOf 2 = 1 := by kernel_rfl
  have k2 : Try.prog.cellsOf 9 = 1 := by kernel_rfl
  have k3 : Try.prog.cellsOf 3 = 1 := by kernel_rfl
  match cs, hl with
  | [c0, c1, c2], _ =>
    match xs, hxl with
    | [y0, y1, y2], _ =>
      have g0 := hf 0 _ rfl
      have g1 := hf 1 _ rfl
      have g2 := hf 2 _ rfl
      simp [k1, k2, k3] at g0 g1 g2
      obtain ⟨i, e0, -, b0⟩ := DataW.trod_int Try.underlying3 g0
      obtain ⟨t, e1, -, b1⟩ := DataW.trod_int Try.underlying2 g1
      obtain ⟨s, e2, -, b2⟩ := DataW.trod_string Try.underlying9 g2
      simp at e0 e1 e2
      have hlen : s.data.toList.length = s.size := by rw [Array.length_toList]; rfl
      subst e0 e1 e2
      exact ⟨⟨i, t, s.data.toList⟩, rfl, bd_i64 b0, bd_i64 b1, by rw [hlen]; simp only [maxLen] at b2; omega⟩
set_option maxRecDepth 100000 in
theorem el_ft {H : Type} {enc : TypeId × Value → H} {w : World} (n : Nat) (cs : List Value) (x : DataW H × List MemPlace) (hl : cs.length = 6)
    (h : DataW.trod enc Try.prog w 0 (fun _ => true) true n 49 cs = some x) : ∃ a : Ft, ftE 0 w.heap.size w cs a ∧ a.ok := by
  obtain ⟨xs, m, _, _, _, hxl, hf⟩ := DataW.trod_struct Try.underlying49 h
  have k1 : Try.prog.cellsOf 2 = 1 := by kernel_rfl
  have k2 : Try.prog.cellsOf 47 = 3 := by kernel_rfl
  have k3 : Try.prog.cellsOf 43 = 1 := by kernel_rfl
  match cs, hl with
  | [c0, c1, c2, c3, c4, c5], _ =>
    match xs, hxl with
    | [y0, y1, y2, y3], _ =>
      have g0 := hf 0 _ rfl
      have g1 := hf 1 _ rfl
      have g2 := hf 2 _ rfl
      have g3 := hf 3 _ rfl
      simp [k1, k2, k3] at g0 g1 g2 g3
      obtain ⟨i, e0, -, b0⟩ := DataW.trod_int Try.underlying2 g0
      obtain ⟨j, e1, -, b1⟩ := DataW.trod_int Try.underlying2 g1
      obtain ⟨v, e2, b2⟩ := el_val _ _ _ rfl g2
      obtain ⟨l, s3, b3⟩ := open_sl (α := Sp) (E := flat Sp.enc) (ok := Sp.ok) Try.underlying43 (size := 2) (by kernel_rfl) (by decide) el_sp g3
      simp at e0 e1 e2
      obtain ⟨rfl, rfl, rfl⟩ := e2
      subst e0 e1
      exact ⟨⟨i, j, v, l⟩, ⟨c5, rfl, s3⟩, bd_i64 b0, bd_i64 b1, b2, b3⟩
/-- How many elements a slice of an argument has, by what it weighs. -/
theorem sl_many {H : Type} {enc : TypeId × Value → H} {P : Program} {w : World} {ts : List TypeId} {ds : List (DataW H)} {t e : TypeId} {j n len cap bytes : Nat} {a : Option Addr} {x : DataW H × List MemPlace}
    (hw : (DataW.weightsEach P ts ds).all (· ≤ reachBytes) = true) (ht : ts[j]? = some t) (hd : ds[j]? = some x.1) (hu : P.underlying t = some (.slice e)) (hb : P.bytesOf e = bytes)
    (h : DataW.trod enc P w 0 (fun _ => true) true n t [.slice a len cap] = some x) : len * bytes ≤ 140737488355328 := by
  rcases Deep.open_slice hu h with ⟨hcs, -⟩ | ⟨a', len', cap', m, n', D, Pl, hcs, -, -, -, -, hx, -⟩
  · simp only [List.cons.injEq, and_true, Value.slice.injEq] at hcs
    rw [hcs.2.1]; omega
  · simp only [List.cons.injEq, and_true, Value.slice.injEq] at hcs
    rw [hx] at hd
    have := sized_slice hw ht hd hu
    rw [hb, List.length_map, List.length_range, hcs.2.1.symm] at this
    have h2 : len * bytes ≤ (len + (List.map (fun j => D (len + j)) (List.range (m - len))).length) * bytes := Nat.mul_le_mul_right _ (Nat.le_add_right _ _)
    have h3 := reachBytes_lt
    omega
end Go.Proofs.Ytkcpanaojehgiaa
