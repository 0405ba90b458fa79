/- The document's Holds. (Printed by hlds.py.) -/
import Derived.Test.YtkcpanaojehgiaaHldR
namespace Go.Proofs.Ytkcpanaojehgiaa
open Go.RowKit
set_option linter.unusedVariables false
set_option linter.unusedSimpArgs false

def two73 (A : List Attr) (x y : Ft) : Bool := y.e == x.e && y.a == x.a && !(atA A x.a).many
def one74 (A : List Attr) (x y : Ft) : Bool := y.e != x.e && y.a == x.a && decide (y.v = x.v) && decide (0 < (atA A x.a).unique)
def metR (q : Ft → Ft → Bool) (x y : Ft) : Bool := q x y && !(bothL y.sp x.sp).isEmpty
def clashR (l : List Ft) (q : Ft → Ft → Bool) : Bool := (List.range l.length).any fun i => (List.range i).any fun j => metR q (l.getD i default) (l.getD j default)
theorem clashR_no {l : List Ft} {q : Ft → Ft → Bool} (h : ∀ i, i < l.length → ∀ j, j < i → metR q (l.getD i default) (l.getD j default) = false) : clashR l q = false := by
  unfold clashR
  rw [List.any_eq_false]
  intro i hi
  rw [Bool.not_eq_true, List.any_eq_false]
  intro j hj
  rw [h i (List.mem_range.1 hi) j (List.mem_range.1 hj)]
  simp
theorem clashR_yes {l : List Ft} {q : Ft → Ft → Bool} {i j : Nat} (hi : i < l.length) (hj : j < i) (h : metR q (l.getD i default) (l.getD j default) = true) : clashR l q = true := by
  unfold clashR
  rw [List.any_eq_true]
  refine ⟨i, List.mem_range.2 hi, ?_⟩
  rw [List.any_eq_true]
  exact ⟨j, List.mem_range.2 hj, h⟩
theorem any_no {α : Type} {l : List α} {d : α} {p : α → Bool} (h : ∀ i, i < l.length → p (l.getD i d) = false) : l.any p = false := by
  rw [List.any_eq_false]
  intro x hx
  obtain ⟨i, hi, rfl⟩ := List.getElem_of_mem hx
  have := h i hi
  rw [getD_at l _ i hi] at this
  simp [this]
theorem any_yes {α : Type} {l : List α} {d : α} {p : α → Bool} {i : Nat} (hi : i < l.length) (h : p (l.getD i d) = true) : l.any p = true := by
  rw [List.any_eq_true]
  rw [getD_at l _ i hi] at h
  exact ⟨l[i], List.getElem_mem hi, h⟩
theorem veq_of {v u : V} (h1 : v.kind = u.kind) (h2 : v.n = u.n) (h3 : v.s = u.s) : v = u := by
  obtain ⟨_, _, _⟩ := v
  obtain ⟨_, _, _⟩ := u
  simp_all
/-- Do facts break a row? -/
def rowB (l : List Ft) (A : List Attr) (r : Nat) : Bool :=
  if r = 0 then l.any (fun x => !isA A x.a) else if r = 1 then l.any (w72 l A) else if r = 2 then clashR l (two73 A) else if r = 3 then clashR l (one74 A) else if r = 4 then l.any w75 else A.any partB
def rowR (l : List Ft) (A : List Attr) : Int :=
  if rowB l A 0 then 71 else if rowB l A 1 then 72 else if rowB l A 2 then 73 else if rowB l A 3 then 74 else if rowB l A 4 then 75 else if rowB l A 5 then 76 else 0
def holdsR (l : List Ft) : Int := if ofErr l ≠ 0 then ofErr l else rowR l (attrsOf l)
theorem rowR_at {l : List Ft} {A : List Attr} {r : Nat} (hr : r < 6) (hno : ∀ q, q < r → rowB l A q = false) (h : rowB l A r = true) : rowR l A = 71 + (r : Int) := by
  unfold rowR
  obtain rfl | rfl | rfl | rfl | rfl | rfl : r = 0 ∨ r = 1 ∨ r = 2 ∨ r = 3 ∨ r = 4 ∨ r = 5 := by omega
  all_goals simp [h, hno]
theorem rowR_none {l : List Ft} {A : List Attr} (hno : ∀ q, q < 6 → rowB l A q = false) : rowR l A = 0 := by
  unfold rowR
  simp [hno]
def findBlock (k : Nat) : Code → Option Code
  | .block i c => if i = k then some (.block i c) else findBlock k c
  | .seq a b => match findBlock k a with
    | some c => some c
    | none => findBlock k b
  | .loop c => findBlock k c
  | .scope c => findBlock k c
  | .cond _ a b => match findBlock k a with
    | some c => some c
    | none => findBlock k b
  | _ => none
/-- What is asked where a piece of code ends the call. -/
def onRet (P : Act → World → Prop) : Exit → Act → World → Prop
  | .ret, a, w => P a w
  | _, _, _ => False
noncomputable def blkH : Code := ((Try.f22.body.bind (findBlock 1)).getD .skip)
end Go.Proofs.Ytkcpanaojehgiaa
