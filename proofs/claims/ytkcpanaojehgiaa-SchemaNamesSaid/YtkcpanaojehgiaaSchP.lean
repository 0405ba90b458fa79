/- Spans and facts, as plain data, and how they lie in memory. -/
import Derived.Test.YtkcpanaojehgiaaAlter
import Derived.Test.YtkcpanaojehgiaaValueP
import Derived.Lib.QuoteBits
namespace Go.Proofs.Ytkcpanaojehgiaa
open Go.RowKit

structure Sp where
  f : Int
  t : Int
deriving DecidableEq
instance : Inhabited Sp := ⟨⟨0, 0⟩⟩
def Sp.enc (s : Sp) : List Value := [.int .i64 s.f, .int .i64 s.t]
abbrev Spans := Sl (flat Sp.enc) 2
theorem Sp.loc : Loc (flat Sp.enc) := flat_loc _

structure Ft where
  e : Int
  a : Int
  v : V
  sp : List Sp
instance : Inhabited Ft := ⟨⟨0, 0, default, []⟩⟩
/-- A fact's cells. -/
def ftE : El Ft := fun lo hi w cs x => ∃ sv, cs = [.int .i64 x.e, .int .i64 x.a, .int .i64 x.v.kind, .int .i64 x.v.n, .string ⟨x.v.s.toArray⟩, sv] ∧ Spans lo hi w sv x.sp
theorem ftE_loc : Loc ftE where
  agree := fun ⟨sv, e, h⟩ ha => ⟨sv, e, h.agree Sp.loc ha⟩
  mono := fun ⟨sv, e, h⟩ k1 k2 => ⟨sv, e, h.mono Sp.loc k1 k2⟩
abbrev Fts := Sl ftE 6

/-- A span of a list may stand where it stands. -/
def spOk (l : List Sp) (i : Nat) : Bool := decide ((l.getD i default).f < (l.getD i default).t) && (i == 0 || decide ((l.getD (i - 1) default).t < (l.getD i default).f))
def setB (l : List Sp) : Bool := (List.range l.length).all (spOk l)
theorem getD_at {α : Type} (l : List α) (d : α) (i : Nat) (h : i < l.length) : l.getD i d = l[i] := by simp [List.getD, h]
theorem range_all {n : Nat} {p : Nat → Bool} (h : ∀ j, j < n → p j = true) : (List.range n).all p = true := by
  rw [List.all_eq_true]; intro x hx; exact h x (List.mem_range.1 hx)
theorem range_all_not {n j : Nat} {p : Nat → Bool} (hj : j < n) (h : p j = false) : (List.range n).all p = false := by
  rw [List.all_eq_false]; exact ⟨j, List.mem_range.2 hj, by simp [h]⟩
theorem wrap_ok {x : Int} (h1 : 0 ≤ x) (h2 : x ≤ 9223372036854775807) : IntKind.i64.wrap x = x := by
  obtain ⟨n, rfl⟩ := Int.eq_ofNat_of_zero_le h1
  exact Lib.wrap_i64_small n (by omega)
theorem setB_true {l : List Sp} (h : ∀ j, j < l.length → spOk l j = true) : setB l = true := range_all h
theorem setB_false {l : List Sp} {j : Nat} (hj : j < l.length) (h : spOk l j = false) : setB l = false := range_all_not hj h
def mayD (e a : Int) (v : V) : Bool := decide (0 ≤ e) && decide (e < 9007199254740992) && decide (0 ≤ a) && decide (a < 9007199254740992) && mayB v
def Ft.may (x : Ft) : Bool := mayD x.e x.a x.v && !x.sp.isEmpty && setB x.sp
def cmpF (x y : Ft) : Int := or3 (icmp x.e y.e) (icmp x.a y.a) (cmpV x.v y.v)
/-- A fact of a list may stand where it stands. -/
def ftOk (l : List Ft) (i : Nat) : Bool := (l.getD i default).may && (i == 0 || decide (cmpF (l.getD (i - 1) default) (l.getD i default) < 0))
def factsB (l : List Ft) : Bool := (List.range l.length).all (ftOk l)
theorem CellsAt.f6 {w : World} {b o : Nat} {v0 v1 v2 v3 v4 v5 : Value} (h : CellsAt w b o [v0, v1, v2, v3, v4, v5]) :
    w.cell? ⟨b, o, none⟩ = some v0 ∧ w.cell? ⟨b, o + 1, none⟩ = some v1 ∧ w.cell? ⟨b, o + 2, none⟩ = some v2 ∧ w.cell? ⟨b, o + 3, none⟩ = some v3 ∧ w.cell? ⟨b, o + 4, none⟩ = some v4 ∧ w.cell? ⟨b, o + 5, none⟩ = some v5 :=
  ⟨h 0 v0 rfl, h 1 v1 rfl, h 2 v2 rfl, h 3 v3 rfl, h 4 v4 rfl, h 5 v5 rfl⟩
theorem CellsAt.c9 {w : World} {b o : Nat} {v0 v1 v2 v3 v4 v5 v6 v7 v8 : Value} (h : CellsAt w b o [v0, v1, v2, v3, v4, v5, v6, v7, v8]) :
    w.cell? ⟨b, o, none⟩ = some v0 ∧ w.cell? ⟨b, o + 1, none⟩ = some v1 ∧ w.cell? ⟨b, o + 2, none⟩ = some v2 ∧ w.cell? ⟨b, o + 3, none⟩ = some v3 ∧ w.cell? ⟨b, o + 4, none⟩ = some v4 ∧ w.cell? ⟨b, o + 5, none⟩ = some v5 ∧ w.cell? ⟨b, o + 6, none⟩ = some v6 ∧ w.cell? ⟨b, o + 7, none⟩ = some v7 ∧ w.cell? ⟨b, o + 8, none⟩ = some v8 :=
  ⟨h 0 v0 rfl, h 1 v1 rfl, h 2 v2 rfl, h 3 v3 rfl, h 4 v4 rfl, h 5 v5 rfl, h 6 v6 rfl, h 7 v7 rfl, h 8 v8 rfl⟩
theorem alloc_below (w : World) (o : Obj) : Below w.heap.size w (w.alloc o) := (Below.refl _ _).alloc (Nat.le_refl _) _
end Go.Proofs.Ytkcpanaojehgiaa
