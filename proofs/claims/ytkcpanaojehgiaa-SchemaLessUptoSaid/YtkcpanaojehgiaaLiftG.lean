/- Facts of an argument, opened, with their bulk. -/
import Derived.Test.YtkcpanaojehgiaaLiftF
import Derived.Test.YtkcpanaojehgiaaLiftK
namespace Go.Proofs.Ytkcpanaojehgiaa
open Go.ChangeShapes Go.WideShapes Go.ChangeAt Go.RowKit
def Ft.big (x : Ft) : Nat := x.sp.length + x.v.s.length + 6
theorem sum_ones {α : Type} (l : List α) : (l.map fun _ => 1).sum = l.length := by
  induction l with
  | nil => rfl
  | cons x r ih => simp only [List.map_cons, List.sum_cons, ih, List.length_cons]; omega
set_option maxRecDepth 100000 in
theorem el_spG {H : Type} {enc : TypeId × Value → H} {w : World} (n : Nat) (cs : List Value) (x : DataW H × List MemPlace) (hl : cs.length = 2)
    (h : DataW.trod enc Try.prog w 0 (fun _ => true) true n 58 cs = some x) : ∃ a : Sp, flat Sp.enc 0 w.heap.size w cs a ∧ a.ok ∧ 1 ≤ Rows.uptoBulk x.1 := by
  obtain ⟨a, h1, h2⟩ := el_sp n cs x hl h
  exact ⟨a, h1, h2, bulk_one _⟩
set_option maxRecDepth 100000 in
theorem el_valG {H : Type} {enc : TypeId × Value → H} {w : World} (n : Nat) (cs : List Value) (x : DataW H × List MemPlace) (hl : cs.length = 3)
    (h : DataW.trod enc Try.prog w 0 (fun _ => true) true n 47 cs = some x) : ∃ a : V, cs = [.int .i64 a.kind, .int .i64 a.n, .string ⟨a.s.toArray⟩] ∧ a.fine ∧ a.s.length + 3 ≤ Rows.uptoBulk x.1 := by
  obtain ⟨xs, m, _, hx, _, hxl, hf⟩ := DataW.trod_struct Try.underlying47 h
  have k1 : Try.prog.cellsOf 2 = 1 := by kernel_rfl
  have k2 : Try.prog.cellsOf 9 = 1 := by kernel_rfl
  have k3 : Try.prog.cellsOf 3 = 1 := by kernel_rfl
  match cs, hl with
  | [c0, c1, c2], _ =>
    match xs, hxl with
    | [y0, y1, y2], _ =>
      have g0 := hf 0 _ rfl
      have g1 := hf 1 _ rfl
      have g2 := hf 2 _ rfl
      simp [k1, k2, k3] at g0 g1 g2
      obtain ⟨i, e0, -, b0⟩ := DataW.trod_int Try.underlying3 g0
      obtain ⟨t, e1, -, b1⟩ := DataW.trod_int Try.underlying2 g1
      obtain ⟨s, e2, q2, b2⟩ := DataW.trod_string Try.underlying9 g2
      simp at e0 e1 e2
      have hlen : s.data.toList.length = s.size := by rw [Array.length_toList]; rfl
      subst e0 e1 e2
      refine ⟨⟨i, t, s.data.toList⟩, rfl, ⟨bd_i64 b0, bd_i64 b1, by rw [hlen]; simp only [maxLen] at b2; omega⟩, ?_⟩
      have h0 := bulk_one y0.1
      have h1 := bulk_one y1.1
      rw [hx, q2]
      simp only [List.map_cons, List.map_nil, Rows.uptoBulk, Rows.uptoBulkAll]
      omega
set_option maxRecDepth 100000 in
theorem el_ftG {H : Type} {enc : TypeId × Value → H} {w : World} (n : Nat) (cs : List Value) (x : DataW H × List MemPlace) (hl : cs.length = 6)
    (h : DataW.trod enc Try.prog w 0 (fun _ => true) true n 49 cs = some x) : ∃ a : Ft, ftE 0 w.heap.size w cs a ∧ a.ok ∧ a.big ≤ Rows.uptoBulk x.1 := by
  obtain ⟨xs, m, _, hx, _, hxl, hf⟩ := DataW.trod_struct Try.underlying49 h
  have k1 : Try.prog.cellsOf 2 = 1 := by kernel_rfl
  have k2 : Try.prog.cellsOf 47 = 3 := by kernel_rfl
  have k3 : Try.prog.cellsOf 43 = 1 := by kernel_rfl
  match cs, hl with
  | [c0, c1, c2, c3, c4, c5], _ =>
    match xs, hxl with
    | [y0, y1, y2, y3], _ =>
      have g0 := hf 0 _ rfl
      have g1 := hf 1 _ rfl
      have g2 := hf 2 _ rfl
      have g3 := hf 3 _ rfl
      simp [k1, k2, k3] at g0 g1 g2 g3
      obtain ⟨i, e0, -, b0⟩ := DataW.trod_int Try.underlying2 g0
      obtain ⟨j, e1, -, b1⟩ := DataW.trod_int Try.underlying2 g1
      obtain ⟨v, e2, b2, u2⟩ := el_valG _ _ _ rfl g2
      obtain ⟨l, s3, b3, u3⟩ := open_slB (α := Sp) (E := flat Sp.enc) (ok := Sp.ok) (f := fun _ => 1) Try.underlying43 (size := 2) (by kernel_rfl) (by decide) el_spG g3
      simp at e0 e1 e2
      obtain ⟨rfl, rfl, rfl⟩ := e2
      subst e0 e1
      refine ⟨⟨i, j, v, l⟩, ⟨c5, rfl, s3⟩, ⟨bd_i64 b0, bd_i64 b1, b2, b3⟩, ?_⟩
      rw [sum_ones] at u3
      have h0 := bulk_one y0.1
      have h1 := bulk_one y1.1
      rw [hx]
      simp only [List.map_cons, List.map_nil, Rows.uptoBulk, Rows.uptoBulkAll, Ft.big]
      omega
theorem sum_mem {α : Type} {l : List α} {f : α → Nat} {x : α} (h : x ∈ l) : f x ≤ (l.map f).sum := by
  induction l with
  | nil => cases h
  | cons y r ih =>
    simp only [List.map_cons, List.sum_cons]
    rcases List.mem_cons.1 h with rfl | h
    · omega
    · have := ih h; omega
theorem big_sp {l : List Ft} {n m : Nat} (b : (l.map Ft.big).sum ≤ n) (h : n ≤ m) {x : Ft} (hx : x ∈ l) : x.sp.length ≤ m := by
  have h1 := sum_mem (f := Ft.big) hx
  unfold Ft.big at h1
  unfold Ft.big at b
  omega
theorem big_len (l : List Ft) : 6 * l.length ≤ (l.map Ft.big).sum := by
  induction l with
  | nil => simp
  | cons y r ih => simp only [List.map_cons, List.sum_cons, List.length_cons, Ft.big]; omega
end Go.Proofs.Ytkcpanaojehgiaa
