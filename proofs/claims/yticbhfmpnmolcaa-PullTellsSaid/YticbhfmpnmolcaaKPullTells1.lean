/- Texts that the proofs of PullTells stand on, part 1. -/
import Derived.Calls
import Derived.WalkKit
import Derived.Lib.Hide
import Derived.Deep.AppendSrc
import Derived.Lib.ConvBytes
import Derived.Laws.IdiomStrings
import Derived.Laws.ResultCell
import Derived.Shelf.Abstract
import Derived.Deep.QuietTactic
import Derived.BigQuiet
import Derived.Test.YticbhfmpnmolcaaProg
import Derived.Lib.Bytealg
import Derived.RangeFuncRecord
import Derived.OrdersHeld
import Derived.Deep.RegionHeld3
import Derived.StillTailTactics
import Derived.RangeFuncNested
import Derived.RangeFuncBound
import Derived.RangeFuncCalls
import Derived.RangeFuncLeaves
import Derived.Shelf.RegionOpen
import Derived.OwnWalkIn
import Derived.TacticsInMore
import Derived.LoopNIn
import Derived.LoopIn
import Derived.OrdersIn
import Derived.Shelf.SlSortCmp.WholeK
import Derived.Test.YticbhfmpnmolcaaRows
import Derived.ProofKit
import Derived.OpenShut
import Derived.ShutString
import Derived.ChangeOld
import Derived.JoinedCond
import Derived.Deep.Slices
/- Plain lemmas on worlds, cells and slices that the walks of this seat use: no function of the program in sight. -/
section
set_option linter.unusedVariables false
set_option linter.unusedSimpArgs false
namespace Go.Proofs.Yticbhfmpnmolcaa
theorem ν1 (a : Act) (t : Tmp) (v : Value) : a.put (some t) v = ⟨a.tmps.setIfInBounds t v, a.defers⟩ := rfl
theorem ν2 (a : Act) (v : Value) : a.put none v = a := rfl
theorem ν3 {α : Type} {xs : List α} {i : Nat} (h : i < xs.toArray.size) : xs.toArray[i] = xs[i]'(by simpa using h) := List.getElem_toArray h
theorem ν4 {α : Type} (a : α) (xs : List α) (i : Nat) (h : i + 1 < (a :: xs).length) : (a :: xs)[i + 1] = xs[i]'(Nat.lt_of_succ_lt_succ h) := List.getElem_cons_succ ..
theorem ν5 {α : Type} (a : α) (xs : List α) (h : 0 < (a :: xs).length) : (a :: xs)[0] = a := List.getElem_cons_zero ..
theorem ν6 {α : Type} (l : List α) (i : Nat) (a : α) : l.toArray.setIfInBounds i a = (l.set i a).toArray := List.setIfInBounds_toArray ..
theorem ν7 {α : Type} (x a : α) (xs : List α) : (x :: xs).set 0 a = a :: xs := List.set_cons_zero ..
theorem ν8 {α : Type} (x a : α) (xs : List α) (n : Nat) : (x :: xs).set (n + 1) a = x :: xs.set n a := List.set_cons_succ ..
open Go.RowKit

/-! ### worlds that agree on the blocks from lo on, ahead of hi -/
def Agree (lo hi : Nat) (w w' : World) : Prop := ∀ k, lo ≤ k → k < hi → w'.heap[k]? = w.heap[k]?
theorem Agree.refl (lo hi : Nat) (w : World) : Agree lo hi w w := fun _ _ _ => rfl
theorem Agree.trans {lo hi : Nat} {a b c : World} (h : Agree lo hi a b) (k : Agree lo hi b c) : Agree lo hi a c := fun i h1 h2 => (k i h1 h2).trans (h i h1 h2)
theorem Agree.mono {lo hi lo' hi' : Nat} {a b : World} (h : Agree lo hi a b) (h1 : lo ≤ lo') (h2 : hi' ≤ hi) : Agree lo' hi' a b := fun i k1 k2 => h i (by omega) (by omega)
theorem Agree.below {B lo hi : Nat} {w w' : World} (h : Below B w w') (hh : hi ≤ B) : Agree lo hi w w' := fun k _ h2 => h.block k (by omega)
theorem Agree.setCell {lo hi : Nat} (w : World) {p : Addr} (hp : p.block < lo ∨ hi ≤ p.block) (u : Value) : Agree lo hi w (w.setCell p u) :=
  fun k h1 h2 => Below.heap_setCell w p u k (by omega)
theorem Agree.alloc {lo hi : Nat} (w : World) (o : Obj) (hh : hi ≤ w.heap.size) : Agree lo hi w (w.alloc o) := fun k _ h2 => Below.heap_alloc w o k (by omega)
theorem Agree.cell {lo hi : Nat} {w w' : World} (h : Agree lo hi w w') {p : Addr} (h1 : lo ≤ p.block) (h2 : p.block < hi) : w'.cell? p = w.cell? p := World.cell?_of_block (h p.block h1 h2)
theorem Agree.grown {lo hi : Nat} {w w' : World} {row : Option Nat} (hg : w.grownBy w' row) (hh : hi ≤ w.heap.size) (hr : ∀ k, row = some k → k < lo ∨ hi ≤ k) : Agree lo hi w w' :=
  fun k h1 h2 => hg.block k (by omega) (fun e => by have := hr k e.symm; omega)

/-- The end of a walk: what is returned, spelled otherwise. -/
theorem fin {R : Ending → World → Prop} {v v' : Value} {w : World} (h : R (.returned v) w) (hv : v = v') : R (.returned v') w := hv ▸ h

@[simp] theorem bget (l : List UInt8) (i : Nat) (h : i < (ByteArray.mk l.toArray).size) : (ByteArray.mk l.toArray)[i] = l[i]'h := rfl
def CellsAt (w : World) (b o : Nat) (cs : List Value) : Prop := ∀ j v, cs[j]? = some v → w.cell? ⟨b, o + j, none⟩ = some v
theorem CellsAt.agree {lo hi : Nat} {w w' : World} {b o : Nat} {cs : List Value} (h : CellsAt w b o cs) (ha : Agree lo hi w w') (h1 : lo ≤ b) (h2 : b < hi) : CellsAt w' b o cs :=
  fun j v e => (ha.cell (p := ⟨b, o + j, none⟩) h1 h2).trans (h j v e)
theorem CellsAt.new (w : World) (cs : List Value) (t : TypeId) : CellsAt (w.alloc (.cells cs.toArray t)) w.heap.size 0 cs := by
  intro j v e
  rw [Nat.zero_add, World.cell?_alloc_new]
  simpa using e
theorem CellsAt.newAt (w : World) (cs : List Value) (t : TypeId) {n : Nat} (hn : n = w.heap.size) : CellsAt (w.alloc (.cells cs.toArray t)) n 0 cs := hn ▸ CellsAt.new w cs t
theorem CellsAt.drew {w : World} {b o : Nat} {cs : List Value} (h : CellsAt w b o cs) : CellsAt w.drew b o cs := h
theorem CellsAt.c1 {w : World} {b o : Nat} {v0 : Value} (h : CellsAt w b o [v0]) : w.cell? ⟨b, o, none⟩ = some v0 := h 0 _ rfl
theorem CellsAt.c2 {w : World} {b o : Nat} {v0 v1 : Value} (h : CellsAt w b o [v0, v1]) : w.cell? ⟨b, o, none⟩ = some v0 ∧ w.cell? ⟨b, o + 1, none⟩ = some v1 := ⟨h 0 _ rfl, h 1 _ rfl⟩
theorem CellsAt.c3 {w : World} {b o : Nat} {v0 v1 v2 : Value} (h : CellsAt w b o [v0, v1, v2]) :
    w.cell? ⟨b, o, none⟩ = some v0 ∧ w.cell? ⟨b, o + 1, none⟩ = some v1 ∧ w.cell? ⟨b, o + 2, none⟩ = some v2 := ⟨h 0 _ rfl, h 1 _ rfl, h 2 _ rfl⟩
theorem CellsAt.c4 {w : World} {b o : Nat} {v0 v1 v2 v3 : Value} (h : CellsAt w b o [v0, v1, v2, v3]) :
    w.cell? ⟨b, o, none⟩ = some v0 ∧ w.cell? ⟨b, o + 1, none⟩ = some v1 ∧ w.cell? ⟨b, o + 2, none⟩ = some v2 ∧ w.cell? ⟨b, o + 3, none⟩ = some v3 := ⟨h 0 _ rfl, h 1 _ rfl, h 2 _ rfl, h 3 _ rfl⟩
theorem CellsAt.c5 {w : World} {b o : Nat} {v0 v1 v2 v3 v4 : Value} (h : CellsAt w b o [v0, v1, v2, v3, v4]) :
    w.cell? ⟨b, o, none⟩ = some v0 ∧ w.cell? ⟨b, o + 1, none⟩ = some v1 ∧ w.cell? ⟨b, o + 2, none⟩ = some v2 ∧ w.cell? ⟨b, o + 3, none⟩ = some v3 ∧ w.cell? ⟨b, o + 4, none⟩ = some v4 :=
  ⟨h 0 _ rfl, h 1 _ rfl, h 2 _ rfl, h 3 _ rfl, h 4 _ rfl⟩
theorem CellsAt.c6 {w : World} {b o : Nat} {v0 v1 v2 v3 v4 v5 : Value} (h : CellsAt w b o [v0, v1, v2, v3, v4, v5]) :
    w.cell? ⟨b, o, none⟩ = some v0 ∧ w.cell? ⟨b, o + 1, none⟩ = some v1 ∧ w.cell? ⟨b, o + 2, none⟩ = some v2 ∧ w.cell? ⟨b, o + 3, none⟩ = some v3 ∧ w.cell? ⟨b, o + 4, none⟩ = some v4 ∧ w.cell? ⟨b, o + 5, none⟩ = some v5 :=
  ⟨h 0 _ rfl, h 1 _ rfl, h 2 _ rfl, h 3 _ rfl, h 4 _ rfl, h 5 _ rfl⟩
theorem CellsAt.c7 {w : World} {b o : Nat} {v0 v1 v2 v3 v4 v5 v6 : Value} (h : CellsAt w b o [v0, v1, v2, v3, v4, v5, v6]) :
    w.cell? ⟨b, o, none⟩ = some v0 ∧ w.cell? ⟨b, o + 1, none⟩ = some v1 ∧ w.cell? ⟨b, o + 2, none⟩ = some v2 ∧ w.cell? ⟨b, o + 3, none⟩ = some v3 ∧ w.cell? ⟨b, o + 4, none⟩ = some v4 ∧ w.cell? ⟨b, o + 5, none⟩ = some v5 ∧
      w.cell? ⟨b, o + 6, none⟩ = some v6 :=
  ⟨h 0 _ rfl, h 1 _ rfl, h 2 _ rfl, h 3 _ rfl, h 4 _ rfl, h 5 _ rfl, h 6 _ rfl⟩

/-! ### a block that is known whole (a variable of the call's own) -/
def Blk (w : World) (b : Nat) (cs : List Value) (t : TypeId) : Prop := w.heap[b]? = some (.cells cs.toArray t (0, 0))
theorem Blk.new (w : World) (cs : List Value) (t : TypeId) {n : Nat} (hn : n = w.heap.size) : Blk (w.alloc (.cells cs.toArray t)) n cs t := by
  subst hn
  show (w.heap.push _)[w.heap.size]? = _
  simp
theorem Blk.lt {w : World} {b : Nat} {cs : List Value} {t : TypeId} (h : Blk w b cs t) : b < w.heap.size := (Array.getElem?_eq_some_iff.1 h).1
theorem Blk.alloc {w : World} {b : Nat} {cs : List Value} {t : TypeId} (h : Blk w b cs t) (o : Obj) : Blk (w.alloc o) b cs t := (Below.heap_alloc w o b h.lt).trans h
theorem Blk.drew {w : World} {b : Nat} {cs : List Value} {t : TypeId} (h : Blk w b cs t) : Blk w.drew b cs t := h
theorem Blk.drewN {w : World} {b : Nat} {cs : List Value} {t : TypeId} (h : Blk w b cs t) (n : Nat) : Blk (w.drewN n) b cs t := h
theorem Blk.below {B : Nat} {w w' : World} {b : Nat} {cs : List Value} {t : TypeId} (h : Blk w b cs t) (hB : Below B w w') (hb : b < B) : Blk w' b cs t := (hB.block b hb).trans h
theorem Blk.agree {lo hi : Nat} {w w' : World} {b : Nat} {cs : List Value} {t : TypeId} (h : Blk w b cs t) (ha : Agree lo hi w w') (h1 : lo ≤ b) (h2 : b < hi) : Blk w' b cs t := (ha b h1 h2).trans h
theorem Blk.grown {w w' : World} {b : Nat} {cs : List Value} {t : TypeId} {row : Option Nat} (h : Blk w b cs t) (hg : w.grownBy w' row) (hr : row ≠ some b) : Blk w' b cs t := (hg.block b h.lt (fun e => hr e.symm)).trans h
theorem Blk.cells {w : World} {b : Nat} {cs : List Value} {t : TypeId} (h : Blk w b cs t) : CellsAt w b 0 cs := by
  intro j v e
  unfold Blk at h
  simp only [World.cell?, h]
  simpa using e
theorem Blk.free {w : World} {b : Nat} {cs : List Value} {t : TypeId} (h : Blk w b cs t) (i : Nat) : w.frozen? ⟨b, i, none⟩ = false := by
  unfold Blk at h
  simp [World.frozen?, h]
theorem Blk.set {w : World} {b : Nat} {cs : List Value} {t : TypeId} (h : Blk w b cs t) (i : Nat) (v : Value) : Blk (w.setCell ⟨b, i, none⟩ v) b (cs.set i v) t := by
  unfold Blk at *
  simp [World.setCell, Array.getElem?_modify, h]
theorem Blk.other {w : World} {b : Nat} {cs : List Value} {t : TypeId} (h : Blk w b cs t) {p : Addr} (hp : b ≠ p.block) (v : Value) : Blk (w.setCell p v) b cs t := (Below.heap_setCell w p v b hp).trans h

/-! ### results that lie in memory -/
theorem CellsAt.runVar {P : Program} {w : World} {b o : Nat} {cs : List Value} {t : TypeId} (h : CellsAt w b o cs) (hA : ∀ w, (isAgg t).run P w = .ok true w) (hS : ∀ w, (sizeOf t).run P w = .ok cs.length w) :
    (loadVar t ⟨b, o, none⟩).run P w = .ok (.agg cs.toArray) w := by
  have hl := run_loadCells_list (P := P) w ⟨b, o, none⟩ cs (fun j v e => by rw [Addr.add_lit]; exact h j v e)
  simp [Go.loadVar, hA, hS, hl]
theorem CellsAt.runVar1 {P : Program} {w : World} {b o : Nat} {v : Value} {t : TypeId} (h : CellsAt w b o [v]) (hA : ∀ w, (isAgg t).run P w = .ok false w) : (loadVar t ⟨b, o, none⟩).run P w = .ok v w := by
  have := h.c1
  simp [Go.loadVar, hA, load, Sem.run, this]
theorem ret_cell_tmp {P : Program} {fn : Func} {R : Ending → World → Prop} {a : Act} {w : World} {t u : Tmp} {ty : TypeId} {b : Nat} {v1 v2 : Value} (h : fn.results = #[.cell t ty, .tmp u]) (ht : a.tmps.getD t undef = .pointer (some ⟨b, 0, none⟩))
    (hc : (loadVar ty ⟨b, 0, none⟩).run P w = .ok v1 w) (hu : a.tmps.getD u undef = v2) (hd : a.defers = []) (hR : R (.returned (.tuple #[v1, v2])) w) : bodyPost P fn R .ret a w := by
  refine bodyPost_ret (v := .tuple #[v1, v2]) ?_ hd hR
  rw [results_cell_tmp h, ht, hu]
  simp [asAddr, Result.andThen, hc]
theorem ret_cell {P : Program} {fn : Func} {R : Ending → World → Prop} {a : Act} {w : World} {t : Tmp} {ty : TypeId} {b : Nat} {v1 : Value} (h : fn.results = #[.cell t ty]) (ht : a.tmps.getD t undef = .pointer (some ⟨b, 0, none⟩))
    (hc : (loadVar ty ⟨b, 0, none⟩).run P w = .ok v1 w) (hd : a.defers = []) (hR : R (.returned v1) w) : bodyPost P fn R .ret a w := by
  refine bodyPost_ret (v := v1) ?_ hd hR
  simp only [results, h]
  have ht' : (a.tmps[t]?).getD undef = .pointer (some ⟨b, 0, none⟩) := by simpa using ht
  simp [Sem.run_bind, Result.andThen, ht', asAddr, hc]

/-! ### elements, and slices of them -/
/-- Cells say x; all that they lead to lies in the blocks from lo on, ahead of hi. -/
abbrev El (α : Type) := Nat → Nat → World → List Value → α → Prop
/-- Elements that lead nowhere. -/
def flat {α : Type} (enc : α → List Value) : El α := fun _ _ _ cs x => cs = enc x
structure Loc {α : Type} (E : El α) : Prop where
  agree : ∀ {lo hi : Nat} {w w' : World} {cs : List Value} {x : α}, E lo hi w cs x → Agree lo hi w w' → E lo hi w' cs x
  mono : ∀ {lo hi lo' hi' : Nat} {w : World} {cs : List Value} {x : α}, E lo hi w cs x → lo' ≤ lo → hi ≤ hi' → E lo' hi' w cs x
theorem flat_loc {α : Type} (enc : α → List Value) : Loc (flat enc) := ⟨fun h _ => h, fun h _ _ => h⟩

def Sl {α : Type} (E : El α) (size lo hi : Nat) (w : World) (v : Value) (xs : List α) : Prop :=
  ∃ ao cap, v = .slice ao xs.length cap ∧ xs.length ≤ cap ∧ cap ≤ maxLen ∧ (ao = none → cap = 0) ∧
    (xs ≠ [] → ∃ b off, ao = some ⟨b, off, none⟩ ∧ lo ≤ b ∧ b < hi ∧ ∀ (k : Nat) (h : k < xs.length), ∃ cs, cs.length = size ∧ CellsAt w b (off + k * size) cs ∧ E lo hi w cs xs[k])

section
variable {α : Type} {E : El α} {size lo hi : Nat} {w w' : World} {v : Value} {xs : List α}
theorem Sl.agree (h : Sl E size lo hi w v xs) (hE : Loc E) (ha : Agree lo hi w w') : Sl E size lo hi w' v xs := by
  obtain ⟨ao, cap, h1, h2, h3, h4, h5⟩ := h
  refine ⟨ao, cap, h1, h2, h3, h4, fun hne => ?_⟩
  obtain ⟨b, off, e, k1, k2, k3⟩ := h5 hne
  refine ⟨b, off, e, k1, k2, fun k hk => ?_⟩
  obtain ⟨cs, c1, c2, c3⟩ := k3 k hk
  exact ⟨cs, c1, c2.agree ha k1 k2, hE.agree c3 ha⟩
theorem Sl.mono {lo' hi' : Nat} (h : Sl E size lo hi w v xs) (hE : Loc E) (h1 : lo' ≤ lo) (h2 : hi ≤ hi') : Sl E size lo' hi' w v xs := by
  obtain ⟨ao, cap, k1, k2, k3, k4, k5⟩ := h
  refine ⟨ao, cap, k1, k2, k3, k4, fun hne => ?_⟩
  obtain ⟨b, off, e, m1, m2, m3⟩ := k5 hne
  refine ⟨b, off, e, by omega, by omega, fun k hk => ?_⟩
  obtain ⟨cs, c1, c2, c3⟩ := m3 k hk
  exact ⟨cs, c1, c2, hE.mono c3 h1 h2⟩
theorem Sl.below {B : Nat} (h : Sl E size lo hi w v xs) (hE : Loc E) (hB : Below B w w') (hh : hi ≤ B) : Sl E size lo hi w' v xs := h.agree hE (.below hB hh)
theorem Sl.nil (E : El α) (size lo hi : Nat) (w : World) : Sl E size lo hi w (.slice none 0 0) [] := ⟨none, 0, rfl, Nat.le_refl _, by simp [maxLen], fun _ => rfl, fun h => absurd rfl h⟩
theorem Sl.empty (E : El α) (size lo hi : Nat) (w : World) (ao : Option Addr) (cap : Nat) (hc : cap ≤ maxLen) (hn : ao = none → cap = 0) : Sl E size lo hi w (.slice ao 0 cap) [] :=
  ⟨ao, cap, rfl, Nat.zero_le _, hc, hn, fun h => absurd rfl h⟩
theorem Sl.len (h : Sl E size lo hi w v xs) : xs.length ≤ 9223372036854775807 := by
  obtain ⟨ao, cap, _, h2, h3, _⟩ := h
  simp only [maxLen] at h3
  omega
/-- The slice's value, and, as soon as an index is at hand, its address and the element's cells. -/
theorem Sl.form (h : Sl E size lo hi w v xs) : ∃ ao cap, v = .slice ao xs.length cap ∧ xs.length ≤ cap ∧ cap ≤ 9223372036854775807 ∧ (ao = none → cap = 0) ∧
    ∀ (k : Nat) (_ : k < xs.length), ∃ b off, ao = some ⟨b, off, none⟩ ∧ lo ≤ b ∧ b < hi ∧ ∀ (k : Nat) (h : k < xs.length), ∃ cs, cs.length = size ∧ CellsAt w b (off + k * size) cs ∧ E lo hi w cs xs[k] := by
  obtain ⟨ao, cap, h1, h2, h3, h4, h5⟩ := h
  exact ⟨ao, cap, h1, h2, by simpa [maxLen] using h3, h4, fun k hk => h5 (by intro e; subst e; simp at hk)⟩
/-- A piece of a slice that is not empty: 'v[i:i+n]'. -/
theorem Sl.piece {b off cap : Nat} (hc : ∀ (k : Nat) (h : k < xs.length), ∃ cs, cs.length = size ∧ CellsAt w b (off + k * size) cs ∧ E lo hi w cs xs[k]) (h1 : lo ≤ b) (h2 : b < hi) (i n c : Nat) (hn : i + n ≤ xs.length) (hnc : n ≤ c) (hcm : c ≤ maxLen) :
    Sl E size lo hi w (.slice (some ⟨b, off + i * size, none⟩) n c) ((xs.drop i).take n) := by
  have hl : ((xs.drop i).take n).length = n := by rw [List.length_take, List.length_drop]; omega
  refine ⟨_, c, by rw [hl], by omega, hcm, (fun h => by cases h), fun _ => ⟨b, _, rfl, h1, h2, fun k hk => ?_⟩⟩
  rw [hl] at hk
  obtain ⟨cs, k1, k2, k3⟩ := hc (i + k) (by omega)
  refine ⟨cs, k1, ?_, by simpa using k3⟩
  rw [show off + i * size + k * size = off + (i + k) * size by rw [Nat.add_mul, Nat.add_assoc]]
  exact k2
/-- Empty or not. -/
theorem Sl.cases (h : Sl E size lo hi w v xs) : (xs = [] ∧ ∃ ao cap, v = .slice ao 0 cap ∧ cap ≤ 9223372036854775807 ∧ (ao = none → cap = 0)) ∨
    (0 < xs.length ∧ ∃ b off cap, v = .slice (some ⟨b, off, none⟩) xs.length cap ∧ xs.length ≤ cap ∧ cap ≤ 9223372036854775807 ∧ lo ≤ b ∧ b < hi ∧
      ∀ (k : Nat) (h : k < xs.length), ∃ cs, cs.length = size ∧ CellsAt w b (off + k * size) cs ∧ E lo hi w cs xs[k]) := by
  obtain ⟨ao, cap, h1, h2, h3, h4, h5⟩ := h
  have h3' : cap ≤ 9223372036854775807 := by simpa [maxLen] using h3
  cases hx : xs with
  | nil => subst hx; exact .inl ⟨rfl, ao, cap, h1, h3', h4⟩
  | cons x r =>
    obtain ⟨b, off, rfl, k1, k2, k3⟩ := h5 (by simp [hx])
    subst hx
    exact .inr ⟨by simp, b, off, cap, h1, h2, h3', k1, k2, k3⟩
end

/-- An owned row (of the kit's laws on append) as a slice of flat elements. -/
theorem Sl.ofOwn {α : Type} {enc : α → List Value} {size lo : Nat} {w : World} {e : TypeId} {v : Value} {xs : List α} (henc : ∀ x, (enc x).length = size)
    (h : w.ownsRow lo e size v xs.length (xs.flatMap enc)) : Sl (flat enc) size lo w.heap.size w v xs := by
  have hlen : ∀ (l : List α), (l.flatMap enc).length = l.length * size := by
    intro l; induction l with
    | nil => simp
    | cons x r ih => simp [henc, ih, Nat.add_mul, Nat.add_comm]
  rcases h.2 with ⟨rfl, hn⟩ | ⟨g, cap, cur, rfl, hb, hg, hnc, hcm, hcs, htake⟩
  · have : xs = [] := List.eq_nil_of_length_eq_zero hn
    subst this
    exact Sl.nil _ _ _ _ _
  · refine ⟨_, cap, rfl, hnc, hcm, (fun h => by cases h), fun _ => ⟨g, 0, rfl, hb, (Array.getElem?_eq_some_iff.1 hg).1, fun k hk => ⟨enc xs[k], henc _, ?_, rfl⟩⟩⟩
    intro j u hu
    have hj : j < size := by have := (List.getElem?_eq_some_iff.1 hu).1; rwa [henc] at this
    have hx : xs = xs.take k ++ xs[k] :: xs.drop (k + 1) := by rw [← List.drop_eq_getElem_cons hk, List.take_append_drop]
    have h1 : (xs.flatMap enc)[k * size + j]? = some u := by
      have hf : xs.flatMap enc = (xs.take k).flatMap enc ++ (enc xs[k] ++ (xs.drop (k + 1)).flatMap enc) := by
        exact (congrArg (List.flatMap enc) hx).trans (by rw [List.flatMap_append, List.flatMap_cons])
      rw [hf, List.getElem?_append_right (by rw [hlen, List.length_take]; rw [Nat.min_eq_left (by omega)]; omega), hlen, List.length_take, Nat.min_eq_left (by omega), show k * size + j - k * size = j by omega, List.getElem?_append_left (by rw [henc]; exact hj)]
      exact hu
    simp only [World.cell?, hg]
    rw [← htake, List.getElem?_take] at h1
    split at h1
    · simpa using h1
    · cases h1

/-! ### bytes and texts -/
section
variable {P : Program} {w : World}
/-- '[]byte(s)': a new row. -/
theorem run_toBytes (l : List UInt8) (src dst e : TypeId) (hs : P.underlying src = some .string) (hd : P.underlying dst = some (.slice e)) (he : P.underlying e = some (.int .u8)) (hl : l.length ≤ 9223372036854775807) :
    ∃ cap w', (convert src dst (.string ⟨l.toArray⟩)).run P w = .ok (.slice (some ⟨w.heap.size, 0, none⟩) l.length cap) w' ∧ Below w.heap.size w w' ∧ w'.heap.size = w.heap.size + 1 ∧ l.length ≤ cap ∧ cap ≤ maxLen ∧
      CellsAt w' w.heap.size 0 (l.map fun c => .int .u8 c.toNat) := by
  refine ⟨grownCap w l.length 0 e, Lib.bytesWorld w e ⟨l.toArray⟩, Lib.run_convert_string_bytes w src dst e ⟨l.toArray⟩ hs hd he, ⟨rfl, rfl, rfl, ?_, fun k hk => Lib.bytesWorld_at_old _ _ _ _ hk⟩, Lib.bytesWorld_size _ _ _,
    grownCap_ge _ _ _ _, grownCap_le_maxLen _ _ _ _ (by simpa [maxLen] using hl), ?_⟩
  · rw [Lib.bytesWorld_size]; omega
  · intro j v hj
    have hjl : j < l.length := by have := (List.getElem?_eq_some_iff.1 hj).1; simpa using this
    rw [Nat.zero_add, Lib.bytesWorld_cell _ _ _ _ hjl]
    simpa [List.getD, hjl] using hj
/-- append onto an owned row, whatever is appended. -/
theorem run_app (base : Nat) (t tx ty e : TypeId) (i : TypeInfo) (z : Value) (size bytes : Nat) (ht : P.underlying t = some (.slice e)) (hi : P.info? e = some i) (hz : i.zero = some z)
    (hsize : i.size = size) (hby : i.bytes = bytes) (hzs : z.cells.size = size) (v : Value) (n : Nat) (xs : List Value) (hown : w.ownsRow base e size v n xs)
    (x : Value) (m : Nat) (news : List Value) (hs : Src P size tx x m news w) (h63 : n + m ≤ maxLen) (hbytes : (n + m) * bytes ≤ 140737488355328) (hbase : base ≤ w.heap.size) :
    ∃ v' w', (Builtin.append_ #[t, tx] ty #[v, x]).run P w = .ok v' w' ∧ w'.ownsRow base e size v' (n + m) (xs ++ news) ∧ w.grownBy w' v.ownBlock ∧ (v'.ownBlock = v.ownBlock ∨ v'.ownBlock = some w.heap.size) := by
  subst hsize
  subst hby
  have hsmall : n + m ≤ 9223372036854775807 := by simp only [maxLen] at h63; omega
  have hlen : (xs ++ news).length = (n + m) * i.size := by rw [List.length_append, hown.1, hs.newsLen, Nat.add_mul]
  have grown : ∀ (old : Nat), old < n + m → ∀ (row : Option Nat),
      (w.drew.alloc (.cells ((xs ++ news).toArray ++ Builtin.zeroCells z.cells (grownCap w (n + m) old e - (n + m))) e)).ownsRow base e i.size
        (.slice (some ⟨w.heap.size, 0, none⟩) (n + m) (grownCap w (n + m) old e)) (n + m) (xs ++ news) ∧
      w.grownBy (w.drew.alloc (.cells ((xs ++ news).toArray ++ Builtin.zeroCells z.cells (grownCap w (n + m) old e - (n + m))) e)) row := by
    intro old ho row
    have hge := grownCap_ge w (n + m) old e
    have hcm : grownCap w (n + m) old e ≤ maxLen := grownCap_le_maxLen w (n + m) old e h63
    refine ⟨⟨hlen, .inr ⟨w.heap.size, _, _, rfl, hbase, heap_alloc_new w.drew _, hge, hcm, ?_, ?_⟩⟩, ⟨rfl, rfl, rfl, by simp, fun k hk _ => Below.heap_alloc w.drew _ k hk⟩⟩
    · simp only [Array.size_append, List.size_toArray, size_zeroCells, hzs, hlen, ← Nat.add_mul]
      congr 1
      omega
    · simp only [Array.toList_append]
      rw [← hlen]
      exact List.take_left
  rcases hown.2 with ⟨rfl, rfl⟩ | ⟨g, cap, cur, rfl, hbg, hg, hnc, hcm, hcs, htake⟩
  · have hx : xs = [] := List.eq_nil_of_length_eq_zero (by simpa using hown.1)
    subst hx
    by_cases hm : m = 0
    · subst hm
      have hn : news = [] := List.eq_nil_of_length_eq_zero (by simpa using hs.newsLen)
      subst hn
      refine ⟨.slice none 0 0, w, ?_, World.ownsRow_nil w base e i.size, ⟨rfl, rfl, rfl, Nat.le_refl _, fun _ _ _ => rfl⟩, .inl rfl⟩
      rcases hs.kind with ⟨e', hk⟩ | hk <;> simp [Builtin.append_, run_underlying ht, run_underlying hk, sizeOf, typeInfo, hi, hs.len, hs.cells]
    · have hr := run_append_grow_src (P := P) w t tx ty e i z ht hi hz none 0 0 [] (run_firstCells_none w.drew i.size 0 0 0) x m news hs (by omega) (by omega)
        (growslice_fits (by omega) hbytes)
      have hgr := grown 0 (by omega) (Value.ownBlock (.slice none 0 0))
      exact ⟨_, _, hr, hgr.1, hgr.2, .inr rfl⟩
  · by_cases hroom : n + m ≤ cap
    · have hfit : n * i.size + news.length ≤ cur.size := by rw [hs.newsLen, hcs, ← Nat.add_mul]; exact Nat.mul_le_mul_right _ hroom
      have hst := run_storeCells_at P g (n * i.size) e news 0 cur w hg (by simpa using hfit) hs.one
      simp only [Nat.add_zero] at hst
      have hr : (Builtin.append_ #[t, tx] ty #[.slice (some ⟨g, 0, none⟩) n cap, x]).run P w =
          .ok (.slice (some ⟨g, 0, none⟩) (n + m) cap) (w.setRow g (cur.toList.take (n * i.size) ++ news ++ cur.toList.drop (n * i.size + news.length)).toArray) := by
        rcases hs.kind with ⟨e', hk⟩ | hk <;> simp [Builtin.append_, run_underlying ht, run_underlying hk, sizeOf, typeInfo, hi, hs.len, hroom, hs.cells, Addr.add_lit, hst]
      refine ⟨_, _, hr, ⟨hlen, .inr ⟨g, cap, _, rfl, hbg, setRow_heap w g cur _ e _ hg, hroom, hcm, ?_, ?_⟩⟩, ⟨rfl, rfl, rfl, by simp, fun k _ hk => setRow_other w g k _ (fun e => hk (by simp [Value.ownBlock, e]))⟩, .inl rfl⟩
      · simp only [List.size_toArray, List.length_append, List.length_take, List.length_drop, Array.length_toList]
        omega
      · rw [htake, ← hlen]
        exact List.take_left
    · have holds : ∀ j u, xs[j]? = some u → w.cell? ((⟨g, 0, none⟩ : Addr).add j) = some u := hown.cells (g := g) rfl
      have hr := run_append_grow_src (P := P) w t tx ty e i z ht hi hz (some ⟨g, 0, none⟩) n cap xs (run_firstCells_some w.drew i.size n ⟨g, 0, none⟩ n cap xs hown.1 (by simpa using holds)) x m news hs (by omega) (by omega)
        (growslice_fits (by omega) hbytes)
      have hgr := grown cap (by omega) (Value.ownBlock (.slice (some ⟨g, 0, none⟩) n cap))
      exact ⟨_, _, hr, hgr.1, hgr.2, .inr rfl⟩
/-- The world behind appends onto b: all old blocks but b's own row are as they were; what came of b lies in that row, or in a new one. -/
structure Appended (w : World) (b : Value) (w' : World) (v' : Value) : Prop where
  grown : w.grownBy w' b.ownBlock
  moved : v'.ownBlock = b.ownBlock ∨ ∃ k, v'.ownBlock = some k ∧ w.heap.size ≤ k
theorem Appended.refl (w : World) (b : Value) : Appended w b w b := ⟨⟨rfl, rfl, rfl, Nat.le_refl _, fun _ _ _ => rfl⟩, .inl rfl⟩
theorem Appended.trans {w1 w2 w3 : World} {a b c : Value} (h : Appended w1 a w2 b) (k : Appended w2 b w3 c) : Appended w1 a w3 c := by
  have hs := h.grown.size
  refine ⟨⟨k.grown.os.trans h.grown.os, k.grown.tape.trans h.grown.tape, k.grown.output.trans h.grown.output, Nat.le_trans hs k.grown.size, fun i hi hne => ?_⟩, ?_⟩
  · refine (k.grown.block i (by omega) ?_).trans (h.grown.block i hi hne)
    rcases h.moved with e | ⟨m, e, hm⟩
    · rw [e]; exact hne
    · rw [e]; intro e2; injection e2 with e2; omega
  · rcases k.moved with e | ⟨m, e, hm⟩
    · rw [e]; exact h.moved
    · exact .inr ⟨m, e, by omega⟩
theorem Appended.step {w1 w2 : World} (b : Value) (h : Below w1.heap.size w1 w2) : Appended w1 b w2 b := ⟨⟨h.os, h.tape, h.output, h.size, fun k hk _ => h.block k hk⟩, .inl rfl⟩
theorem Appended.blk {w w' : World} {a a' : Value} (h : Appended w a w' a') {b : Nat} {cs : List Value} {t : TypeId} (hb : Blk w b cs t) (hne : a.ownBlock ≠ some b) : Blk w' b cs t := hb.grown h.grown hne
/-- A block that is not a's is not what came of a, either. -/
theorem Appended.apart {w w' : World} {a a' : Value} (h : Appended w a w' a') {b : Nat} (hb : b < w.heap.size) (hne : a.ownBlock ≠ some b) : a'.ownBlock ≠ some b := by
  rcases h.moved with e | ⟨k, e, hk⟩
  · rw [e]; exact hne
  · rw [e]; intro e2; injection e2 with e2; omega
theorem Appended.below {w w' : World} {a a' : Value} (h : Appended w a w' a') {B : Nat} (hB : B ≤ w.heap.size) (ha : ∀ k, a.ownBlock = some k → B ≤ k) : Below B w w' := (Below.refl B w).grown h.grown hB ha
theorem Appended.agree {w w' : World} {a a' : Value} (h : Appended w a w' a') {lo hi : Nat} (hh : hi ≤ w.heap.size) (ha : ∀ k, a.ownBlock = some k → k < lo ∨ hi ≤ k) : Agree lo hi w w' := .grown h.grown hh ha

theorem CellsAt.appended {w w' : World} {b o : Nat} {cs : List Value} {a a' : Value} (h : CellsAt w b o cs) (ha : Appended w a w' a') (hb : b < w.heap.size) (hne : a.ownBlock ≠ some b) : CellsAt w' b o cs :=
  h.agree (lo := b) (hi := b + 1) (ha.agree (by omega) (fun k e => by
    have : k ≠ b := fun e2 => hne (e2 ▸ e)
    omega)) (Nat.le_refl _) (by omega)
/-- v is a row of the call's own, in a block from lo on, whose elements are xs. -/
def Own {α : Type} (enc : α → List Value) (e : TypeId) (size lo : Nat) (w : World) (v : Value) (xs : List α) : Prop := w.ownsRow lo e size v xs.length (xs.flatMap enc)
theorem Own.nil {α : Type} (enc : α → List Value) (e : TypeId) (size lo : Nat) (w : World) : Own enc e size lo w (.slice none 0 0) ([] : List α) := World.ownsRow_nil w lo e size
theorem Own.made {α : Type} (enc : α → List Value) (e : TypeId) (size lo : Nat) (w : World) {n : Nat} (hn : n = w.heap.size) (hlo : lo ≤ w.heap.size) : Own enc e size lo (w.alloc (.cells #[] e)) (.slice (some ⟨n, 0, none⟩) 0 0) ([] : List α) := by
  subst hn
  exact World.ownsRow_lit w #[] 0 hlo (Nat.zero_le _) (by simp)
/-- An own row that is not empty. -/
theorem Own.form {α : Type} {enc : α → List Value} {e : TypeId} {size lo : Nat} {w : World} {v : Value} {xs : List α} (h : Own enc e size lo w v xs) (hx : xs ≠ []) :
    ∃ g cap, v = .slice (some ⟨g, 0, none⟩) xs.length cap ∧ lo ≤ g ∧ g < w.heap.size ∧ xs.length ≤ cap ∧ cap ≤ 9223372036854775807 ∧ CellsAt w g 0 (xs.flatMap enc) ∧ ∀ i, w.frozen? ⟨g, i, none⟩ = false := by
  rcases h.2 with ⟨-, hn⟩ | ⟨g, cap, cur, rfl, hb, hg, hnc, hcm, hcs, htake⟩
  · exact absurd (List.eq_nil_of_length_eq_zero hn) hx
  · refine ⟨g, cap, rfl, hb, (Array.getElem?_eq_some_iff.1 hg).1, hnc, by simpa [maxLen] using hcm, fun j u hu => ?_, fun i => by simp [World.frozen?, hg]⟩
    rw [← htake, List.getElem?_take] at hu
    rw [Nat.zero_add]
    simp only [World.cell?, hg]
    split at hu
    · simpa using hu
    · cases hu
theorem Own.lt {α : Type} {enc : α → List Value} {e : TypeId} {size lo : Nat} {w : World} {v : Value} {xs : List α} (h : Own enc e size lo w v xs) : ∀ k, v.ownBlock = some k → lo ≤ k ∧ k < w.heap.size := World.ownsRow.lt h
theorem Own.app {α : Type} {enc : α → List Value} {e : TypeId} {size lo : Nat} {v : Value} {xs ys : List α} (h : Own enc e size lo w v xs) (t tx ty : TypeId) (i : TypeInfo) (z : Value) (bytes : Nat) (ht : P.underlying t = some (.slice e)) (hi : P.info? e = some i)
    (hz : i.zero = some z) (hsize : i.size = size) (hby : i.bytes = bytes) (hzs : z.cells.size = size) {x : Value} (hs : Src P size tx x ys.length (ys.flatMap enc) w) (hb : (xs.length + ys.length) * bytes ≤ 140737488355328) (hb1 : 1 ≤ bytes) (hlo : lo ≤ w.heap.size) :
    ∃ v' w', (Builtin.append_ #[t, tx] ty #[v, x]).run P w = .ok v' w' ∧ Own enc e size lo w' v' (xs ++ ys) ∧ Appended w v w' v' := by
  have h63 : xs.length + ys.length ≤ maxLen := by
    have : (xs.length + ys.length) * 1 ≤ (xs.length + ys.length) * bytes := Nat.mul_le_mul_left _ hb1
    simp only [maxLen]; omega
  obtain ⟨v', w', hr, h1, h2, h3⟩ := run_app lo t tx ty e i z size bytes ht hi hz hsize hby hzs v xs.length _ h x ys.length _ hs h63 hb hlo
  refine ⟨v', w', hr, ?_, h2, ?_⟩
  · unfold Own; rw [List.length_append, List.flatMap_append]; exact h1
  · rcases h3 with h3 | h3
    · exact .inl h3
    · exact .inr ⟨_, h3, Nat.le_refl _⟩
theorem Own.kept {α : Type} {enc : α → List Value} {e : TypeId} {size lo : Nat} {w w' : World} {v : Value} {xs : List α} (h : Own enc e size lo w v xs) (hB : Below w.heap.size w w') : Own enc e size lo w' v xs :=
  World.ownsRow.kept (row := none) h ⟨hB.os, hB.tape, hB.output, hB.size, fun k hk _ => hB.block k hk⟩ (by cases v.ownBlock <;> simp)
/-- The walk stops ahead of an append: 'go_wp2_with (at_builtin; refine AtApp.of ?_)'. -/
def AtApp (p : Prop) : Prop := p
theorem AtApp.of {p : Prop} (h : AtApp p) : p := h
theorem AtApp.mk {p : Prop} (h : p) : AtApp p := h
theorem AtApp.go {ops : Array Oper} {rest : List Oper} {o : Oper} {a : Act} {Q : Exit → Act → World → Prop} {s x : Operand} {t tx : TypeId} {v' : Value} {w' : World} {sv xv : Value}
    (hrun : (Builtin.append_ #[t, tx] o.type #[sv, xv]).run P w = .ok v' w') (hgd : o.guard = none) (ho : o.op = .call { callee := .builtin .append, args := #[s, x], argTypes := #[t, tx] }) (hs : a.eval s = sv) (hx : a.eval x = xv)
    (hK : wpList P ops Q rest (a.put o.dst v') w') : AtApp (wpList P ops Q (o :: rest) a w) := by
  refine wpList_plain hgd fun K hK' => ?_
  unfold Oper.wp execOp
  simp only [ho, resolve, invoke, builtin, Sem.run_bind, Sem.run_pure, Result.andThen_ok, List.map_toArray, List.map_cons, List.map_nil, hs, hx, hrun]
  exact hK' _ _ hK

/-- A slice of flat elements, as what is appended. -/
theorem Src.ofSl {α : Type} {enc : α → List Value} {size lo hi : Nat} {v : Value} {xs : List α} (h : Sl (flat enc) size lo hi w v xs) (henc : ∀ x, (enc x).length = size) (hone : ∀ x, ∀ u ∈ enc x, u.oneCell' = true)
    {tx e' : TypeId} (hk : P.underlying tx = some (.slice e')) : Src P size tx v xs.length (xs.flatMap enc) w := by
  have hlen : ∀ (l : List α), (l.flatMap enc).length = l.length * size := by
    intro l; induction l with
    | nil => simp
    | cons x r ih => simp [henc, ih, Nat.add_mul, Nat.add_comm]
  rcases h.cases with ⟨rfl, ao, cap, rfl, -, hn⟩ | ⟨hp, b, off, cap, rfl, -, -, -, -, hc⟩
  · cases ao with
    | none => obtain rfl := hn rfl; exact Src.ofNil w hk 0
    | some a => exact Src.ofSlice w hk a 0 cap [] (by simp) (fun j u hu => by cases hu) (fun u hu => by cases hu)
  · refine Src.ofSlice w hk _ xs.length cap (xs.flatMap enc) (hlen xs) (fun j u hu => ?_) (fun u hu => ?_)
    · have hj : j < xs.length * size := by have := (List.getElem?_eq_some_iff.1 hu).1; rwa [hlen] at this
      have hs : 0 < size := by
        rcases Nat.eq_zero_or_pos size with h0 | h0
        · rw [h0] at hj; simp at hj
        · exact h0
      have hkl : j / size < xs.length := Nat.div_lt_of_lt_mul (by rw [Nat.mul_comm]; exact hj)
      obtain ⟨cs, -, h1, rfl⟩ := hc (j / size) hkl
      have hx : xs = xs.take (j / size) ++ xs[j / size] :: xs.drop (j / size + 1) := by rw [← List.drop_eq_getElem_cons hkl, List.take_append_drop]
      have hf : xs.flatMap enc = (xs.take (j / size)).flatMap enc ++ (enc xs[j / size] ++ (xs.drop (j / size + 1)).flatMap enc) :=
        (congrArg (List.flatMap enc) hx).trans (by rw [List.flatMap_append, List.flatMap_cons])
      have hdm := Nat.div_add_mod j size
      have hml := Nat.mod_lt j hs
      have hcm : size * (j / size) = j / size * size := Nat.mul_comm _ _
      rw [hf, List.getElem?_append_right (by rw [hlen, List.length_take]; rw [Nat.min_eq_left (by omega)]; omega), hlen, List.length_take, Nat.min_eq_left (by omega), show j - j / size * size = j % size by omega, List.getElem?_append_left (by rw [henc]; exact hml)] at hu
      have := h1 _ _ hu
      rw [Addr.add_lit]
      rwa [show off + j / size * size + j % size = off + j by omega] at this
    · obtain ⟨x, -, hx⟩ := List.mem_flatMap.1 hu
      exact hone x u hx
end

theorem drewN {B : Nat} {a w : World} (h : Below B a w) (n : Nat) : Below B a (w.drewN n) := h.trans ⟨rfl, rfl, rfl, Nat.le_refl _, fun _ _ => rfl⟩
theorem any_take_succ {α : Type} (l : List α) (p : α → Bool) (k : Nat) (h : k < l.length) : (l.take (k + 1)).any p = ((l.take k).any p || p l[k]) := by
  rw [List.take_succ_eq_append_getElem h, List.any_append]; simp
theorem all_take_succ {α : Type} (l : List α) (p : α → Bool) (k : Nat) (h : k < l.length) : (l.take (k + 1)).all p = ((l.take k).all p && p l[k]) := by
  rw [List.take_succ_eq_append_getElem h, List.all_append]; simp
end Go.Proofs.Yticbhfmpnmolcaa
end

/- schema.Alter and the document's answer: each finds, for every elder attribute, one of the new ones with its number, name and type. -/
section
set_option linter.unusedVariables false
set_option linter.unusedSimpArgs false
namespace Go.Proofs.Yticbhfmpnmolcaa
open Go.RowKit

structure Attr where
  id : Int
  name : List UInt8
  type : Int
  many : Bool
  unique : Int
  part : Bool
  index : Bool
def Attr.enc (a : Attr) : List Value := [.int .i64 a.id, .string ⟨a.name.toArray⟩, .int .i64 a.type, .bool a.many, .int .i64 a.unique, .bool a.part, .bool a.index]
abbrev Attrs := Sl (flat Attr.enc) 7
theorem Attrs.loc : Loc (flat Attr.enc) := flat_loc _

/-- An index, or -1. -/
def oidx : Option Nat → Int
  | some i => i
  | none => -1

end Go.Proofs.Yticbhfmpnmolcaa
end

/- Values, as plain data: which may be, and how two stand. No program in sight. -/
section
set_option linter.unusedVariables false
set_option linter.unusedSimpArgs false
namespace Go.Proofs.Yticbhfmpnmolcaa

/-- A value: its kind, its number, its text. -/
structure V where
  kind : Int
  n : Int
  s : List UInt8
deriving DecidableEq
instance : Inhabited V := ⟨⟨0, 0, []⟩⟩
def V.enc (v : V) : List Value := [.int .i64 v.kind, .int .i64 v.n, .string ⟨v.s.toArray⟩]

def icmp (a b : Int) : Int := if a < b then -1 else if b < a then 1 else 0
/-- Three numbers: the first that is not 0. -/
def or3 (a b c : Int) : Int := if a ≠ 0 then a else if b ≠ 0 then b else c
def cmpV (a b : V) : Int := or3 (icmp a.kind b.kind) (icmp a.n b.n) (Lib.compareBytes a.s b.s)

def lowB (c : UInt8) : Bool := decide (97 ≤ (c.toNat : Int)) && decide ((c.toNat : Int) ≤ 122)
def digB (c : UInt8) : Bool := decide (48 ≤ (c.toNat : Int)) && decide ((c.toNat : Int) ≤ 57)
/-- A sign of a word, behind its first. -/
def signB (c : UInt8) : Bool := lowB c || digB c || (c.toNat : Int) == 46 || (c.toNat : Int) == 95 || (c.toNat : Int) == 45 || (c.toNat : Int) == 47
def wordB (s : List UInt8) : Bool := decide (1 ≤ (s.length : Int)) && decide ((s.length : Int) ≤ 64) && (s.head?.map lowB).getD false && s.all signB
def mayB (v : V) : Bool :=
  if v.kind = 1 ∨ v.kind = 6 then v.s.isEmpty
  else if v.kind = 2 then v.s.isEmpty && (v.n == 0 || v.n == 1)
  else if v.kind = 5 then v.s.isEmpty && decide (0 ≤ v.n) && decide (v.n < 9007199254740992)
  else if v.kind = 3 ∨ v.kind = 4 then v.n == 0 && decide ((v.s.length : Int) ≤ 1000)
  else if v.kind = 7 then v.n == 0 && wordB v.s
  else false
theorem compareBytes_take (a b : List UInt8) (k : Nat) (h : a.take k = b.take k) (ha : k ≤ a.length) (hb : k ≤ b.length) : Lib.compareBytes a b = Lib.compareBytes (a.drop k) (b.drop k) := by
  induction k generalizing a b with
  | zero => rfl
  | succ k ih =>
    match a, b, ha, hb with
    | x :: a, y :: b, ha, hb =>
      simp only [List.take_succ_cons, List.cons.injEq] at h
      obtain ⟨rfl, h⟩ := h
      simp only [List.drop_succ_cons]
      rw [← ih a b h (by simpa using ha) (by simpa using hb)]
      simp [Lib.compareBytes]
end Go.Proofs.Yticbhfmpnmolcaa
end

/- How two values stand is a total order. -/
section
set_option linter.unusedVariables false
set_option linter.unusedSimpArgs false
namespace Go.Proofs.Yticbhfmpnmolcaa
set_option linter.unusedVariables false

/-- A comparison that is a total order's. -/
structure Cmp {α : Type} (c : α → α → Int) : Prop where
  three : ∀ a b, c a b = -1 ∨ c a b = 0 ∨ c a b = 1
  zero : ∀ a b, c a b = 0 ↔ a = b
  anti : ∀ a b, c b a = - c a b
  trans : ∀ a b d, c a b < 0 → c b d < 0 → c a d < 0
theorem icmp_cmp : Cmp icmp where
  three a b := by unfold icmp; split <;> (try split) <;> simp
  zero a b := by unfold icmp; split <;> (try split) <;> (constructor <;> intro h <;> omega)
  anti a b := by unfold icmp; repeat' split
                 all_goals omega
  trans a b d h1 h2 := by
    unfold icmp at *
    have : a < b := by
      by_cases h : a < b
      · exact h
      · rw [if_neg h] at h1; split at h1 <;> omega
    have : b < d := by
      by_cases h : b < d
      · exact h
      · rw [if_neg h] at h2; split at h2 <;> omega
    rw [if_pos (by omega)]
    omega
theorem cb_cons (a b : UInt8) (x y : List UInt8) : Lib.compareBytes (a :: x) (b :: y) = if a < b then -1 else if b < a then 1 else Lib.compareBytes x y := rfl
theorem bytes_cmp : Cmp Lib.compareBytes where
  three a b := by
    induction a generalizing b with
    | nil => cases b <;> simp [Lib.compareBytes]
    | cons x a ih =>
      cases b with
      | nil => simp [Lib.compareBytes]
      | cons y b => rw [cb_cons]; split <;> (try split) <;> first | simp | exact ih b
  zero a b := by
    induction a generalizing b with
    | nil => cases b <;> simp [Lib.compareBytes]
    | cons x a ih =>
      cases b with
      | nil => simp [Lib.compareBytes]
      | cons y b =>
        rw [cb_cons, List.cons.injEq]
        split
        · rename_i h
          constructor
          · intro h; omega
          · rintro ⟨rfl, -⟩; exact absurd h (UInt8.lt_irrefl _)
        · split
          · rename_i h
            constructor
            · intro h; omega
            · rintro ⟨rfl, -⟩; exact absurd h (UInt8.lt_irrefl _)
          · rename_i h1 h2
            rw [ih b]
            have : x = y := UInt8.le_antisymm (UInt8.not_lt.1 h2) (UInt8.not_lt.1 h1)
            simp [this]
  anti a b := by
    induction a generalizing b with
    | nil => cases b <;> simp [Lib.compareBytes]
    | cons x a ih =>
      cases b with
      | nil => simp [Lib.compareBytes]
      | cons y b =>
        rw [cb_cons, cb_cons]
        by_cases h1 : x < y
        · rw [if_pos h1, if_neg (fun h => UInt8.lt_irrefl _ (UInt8.lt_trans h1 h)), if_pos h1]; rfl
        · by_cases h2 : y < x
          · rw [if_pos h2, if_neg h1, if_pos h2]
          · rw [if_neg h2, if_neg h1, if_neg h1, if_neg h2, ih b]
  trans a b d h1 h2 := by
    induction a generalizing b d with
    | nil =>
      cases b with
      | nil => simp [Lib.compareBytes] at h1
      | cons y b =>
        cases d with
        | nil => simp [Lib.compareBytes] at h2
        | cons z d => simp [Lib.compareBytes]
    | cons x a ih =>
      cases b with
      | nil => simp [Lib.compareBytes] at h1
      | cons y b =>
        cases d with
        | nil => simp [Lib.compareBytes] at h2
        | cons z d =>
          rw [cb_cons] at *
          by_cases g1 : x < y
          · by_cases g2 : y < z
            · rw [if_pos (UInt8.lt_trans g1 g2)]; omega
            · rw [if_neg g2] at h2
              by_cases g3 : z < y
              · rw [if_pos g3] at h2; omega
              · have : y = z := UInt8.le_antisymm (UInt8.not_lt.1 g3) (UInt8.not_lt.1 g2)
                subst this
                rw [if_pos g1]; omega
          · rw [if_neg g1] at h1
            by_cases g3 : y < x
            · rw [if_pos g3] at h1; omega
            · rw [if_neg g3] at h1
              have : x = y := UInt8.le_antisymm (UInt8.not_lt.1 g3) (UInt8.not_lt.1 g1)
              subst this
              by_cases g2 : x < z
              · rw [if_pos g2]; omega
              · rw [if_neg g2] at h2 ⊢
                by_cases g4 : z < x
                · rw [if_pos g4] at h2; omega
                · rw [if_neg g4] at h2 ⊢
                  exact ih b d h1 h2
end Go.Proofs.Yticbhfmpnmolcaa
end

/- Worlds that differ in some blocks alone. -/
section
set_option linter.unusedVariables false
set_option linter.unusedSimpArgs false
namespace Go.Proofs.Yticbhfmpnmolcaa
open Go.RowKit

/-- Of what was there nothing has turned but blocks of which A holds. -/
structure Only (A : Nat → Prop) (w w' : World) : Prop where
  os : w'.os = w.os
  tape : w'.tape = w.tape
  output : w'.output = w.output
  size : w.heap.size ≤ w'.heap.size
  block : ∀ k, k < w.heap.size → ¬ A k → w'.heap[k]? = w.heap[k]?
theorem Only.refl (A : Nat → Prop) (w : World) : Only A w w := ⟨rfl, rfl, rfl, Nat.le_refl _, fun _ _ _ => rfl⟩
theorem Only.trans {A : Nat → Prop} {a b c : World} (h : Only A a b) (k : Only A b c) : Only A a c :=
  ⟨k.os.trans h.os, k.tape.trans h.tape, k.output.trans h.output, Nat.le_trans h.size k.size, fun i hi hA => (k.block i (Nat.lt_of_lt_of_le hi h.size) hA).trans (h.block i hi hA)⟩
theorem Only.mono {A A' : Nat → Prop} {a b : World} (h : Only A a b) (hA : ∀ k, k < a.heap.size → A k → A' k) : Only A' a b := ⟨h.os, h.tape, h.output, h.size, fun k hk hn => h.block k hk (fun e => hn (hA k hk e))⟩
theorem Below.only {A : Nat → Prop} {w w' : World} (h : Below w.heap.size w w') : Only A w w' := ⟨h.os, h.tape, h.output, h.size, fun k hk _ => h.block k hk⟩
theorem Only.below {A : Nat → Prop} {B : Nat} {w w' : World} (h : Only A w w') (hB : B ≤ w.heap.size) (hA : ∀ k, A k → B ≤ k) : Below B w w' := ⟨h.os, h.tape, h.output, h.size, fun k hk => h.block k (by omega) (fun e => by have := hA k e; omega)⟩
theorem Only.agree {A : Nat → Prop} {lo hi : Nat} {w w' : World} (h : Only A w w') (hh : hi ≤ w.heap.size) (hA : ∀ k, A k → k < lo ∨ hi ≤ k) : Agree lo hi w w' := fun k h1 h2 => h.block k (by omega) (fun e => by have := hA k e; omega)
theorem Only.blk {A : Nat → Prop} {w w' : World} {b : Nat} {cs : List Value} {t : TypeId} (h : Only A w w') (hb : Blk w b cs t) (hA : ¬ A b) : Blk w' b cs t := (h.block b hb.lt hA).trans hb
theorem Only.setCell {A : Nat → Prop} (w : World) {p : Addr} (hp : A p.block) (u : Value) : Only A w (w.setCell p u) := ⟨rfl, rfl, rfl, by simp [World.setCell], fun k _ hn => Below.heap_setCell _ _ _ _ (fun e => hn (e ▸ hp))⟩
theorem Only.alloc {A : Nat → Prop} (w : World) (o : Obj) : Only A w (w.alloc o) := ⟨rfl, rfl, rfl, by simp, fun k hk _ => Below.heap_alloc w o k hk⟩
theorem Only.drew {A : Nat → Prop} (w : World) : Only A w w.drew := ⟨rfl, rfl, rfl, Nat.le_refl _, fun _ _ _ => rfl⟩
theorem Only.putObj {A : Nat → Prop} (w : World) {b : Nat} (hb : A b) (o : Obj) : Only A w (w.putObj b o) := ⟨rfl, rfl, rfl, by simp [World.putObj], fun k _ hn => World.putObj_heap_other (fun e => hn (by subst e; exact hb))⟩
end Go.Proofs.Yticbhfmpnmolcaa
end

/- Steps of a region that draws its order: what comes up next yields a value, skips, or calls. -/
section
set_option linter.unusedVariables false
set_option linter.unusedSimpArgs false
namespace Go.Proofs.Yticbhfmpnmolcaa
open Go.RowKit
theorem wantedIte {c : Bool} {p q : Prop} (hc : c = true) (h : p) : if c = true then p else q := by rw [if_pos hc]; exact h
theorem opVal {P : Program} {o : Oper} {a : Act} {w : World} {K : Act → World → Prop} {Q : Exit → Act → World → Prop} {v : Value} {w' : World} (h : (execOp a.eval o).run P w = .ok (.value v) w') (hK : K (a.put o.dst v) w') : Oper.wp P o a w K Q := by
  unfold Oper.wp
  rw [h]
  exact hK
theorem opSkip {P : Program} {o : Oper} {a : Act} {w : World} {K : Act → World → Prop} {Q : Exit → Act → World → Prop} {w' : World} (h : (execOp a.eval o).run P w = .ok .skip w') (hK : K (a.put o.dst undef) w') : Oper.wp P o a w K Q := by
  unfold Oper.wp
  rw [h]
  exact hK
section
variable {P : Program} {ops : Array Oper} {Q : Exit → Act → World → Prop} {md : Region.Mode} {S : World → Prop}
/-- An operation that comes up next and yields a value. -/
theorem allVal {fuel : Nat} {listed : Array Bool} {a : Act} {w w' : World} {i : Nat} {o : Oper} {rs : List Nat} {v : Value} (ho : ops[i]? = some o) (hw : Region.wanted o (yielded ops a.tmps) = true) (hr : (execOp a.eval o).run P w = .ok (.value v) w')
    (hS : S w') (h : wpAnyH P md ops Q S fuel (listed.setIfInBounds i true) (a.put o.dst v) w') (hs : AllReadyH P md ops Q S fuel listed a w rs) : AllReadyH P md ops Q S fuel listed a w (i :: rs) :=
  AllReadyH.cons ho (fun _ hK => wantedIte hw (opVal hr (hK.out _ _ hS (fun _ => h)))) hs
theorem allSkip {fuel : Nat} {listed : Array Bool} {a : Act} {w w' : World} {i : Nat} {o : Oper} {rs : List Nat} (ho : ops[i]? = some o) (hw : Region.wanted o (yielded ops a.tmps) = true) (hr : (execOp a.eval o).run P w = .ok .skip w')
    (hS : S w') (h : wpAnyH P md ops Q S fuel (listed.setIfInBounds i true) (a.put o.dst undef) w') (hs : AllReadyH P md ops Q S fuel listed a w rs) : AllReadyH P md ops Q S fuel listed a w (i :: rs) :=
  AllReadyH.cons ho (fun _ hK => wantedIte hw (opSkip hr (hK.out _ _ hS (fun _ => h)))) hs
theorem execApp {o : Oper} {ρ : Operand → Value} {w : World} {s x : Operand} {t tx : TypeId} {v' : Value} {w' : World} {sv xv : Value}
    (hrun : (Builtin.append_ #[t, tx] o.type #[sv, xv]).run P w = .ok v' w') (ho : o.op = .call { callee := .builtin .append, args := #[s, x], argTypes := #[t, tx] }) (hs : ρ s = sv) (hx : ρ x = xv) : (execOp ρ o).run P w = .ok (.value v') w' := by
  unfold execOp
  simp only [ho, resolve, invoke, builtin, Sem.run_bind, Sem.run_pure, Result.andThen_ok, List.map_toArray, List.map_cons, List.map_nil, hs, hx, hrun]
end
theorem allCall {P : Program} {ops : Array Oper} {Q : Exit → Act → World → Prop} {md : Region.Mode} {S : World → Prop} {fuel : Nat} {listed : Array Bool} {a : Act} {w : World} {i : Nat} {o : Oper} {rs : List Nat} {f : FuncId} {args : Array Value}
    (ho : ops[i]? = some o) (hw : Region.wanted o (yielded ops a.tmps) = true) (hr : (execOp a.eval o).run P w = .ok (.enter f args) w)
    (hc : Calls P f args w (fun e w' => ∃ v, e = .returned v ∧ S w' ∧ wpAnyH P md ops Q S fuel (listed.setIfInBounds i true) (a.put o.dst v) w')) (hs : AllReadyH P md ops Q S fuel listed a w rs) : AllReadyH P md ops Q S fuel listed a w (i :: rs) :=
  AllReadyH.cons ho (fun _ hK => wantedIte hw (by
    unfold Oper.wp
    rw [hr]
    refine hc.mono ?_
    rintro e w' ⟨v, rfl, hS, h⟩
    exact hK.out _ _ hS (fun _ => h))) hs
end Go.Proofs.Yticbhfmpnmolcaa
end

/- The walks of package value, of cmp and strings as it calls them, and of the document's answer for values. -/
section
set_option linter.unusedVariables false
set_option linter.unusedSimpArgs false
namespace Go.Proofs.Yticbhfmpnmolcaa
open Go.RowKit

set_option maxRecDepth 100000 in
theorem isNaN_int (x : Int) (w : World) (R : Ending → World → Prop) (hR : R (.returned (.bool false)) w) : Calls Try.prog 85 #[.int .i64 x] w R := by
  go_enter Try.func85, Try.ntmps85
  go_wp2
  exact hR
set_option maxRecDepth 100000 in
theorem isNaN_int64 (x : Int) (w : World) (R : Ending → World → Prop) (hR : R (.returned (.bool false)) w) : Calls Try.prog 90 #[.int .i64 x] w R := by
  go_enter Try.func90, Try.ntmps90
  go_wp2
  exact hR

set_option maxRecDepth 100000 in
theorem cmp_int (x y : Int) (w : World) (R : Ending → World → Prop) (hR : R (.returned (.int .i64 (icmp x y))) w) : Calls Try.prog 53 #[.int .i64 x, .int .i64 y] w R := by
  go_enter Try.func53, Try.ntmps53
  go_wp2_with fail
  refine isNaN_int _ _ _ ?_
  go_wp2_with fail
  refine isNaN_int _ _ _ ?_
  go_wp2_with fail
  all_goals exact fin hR (by simp [icmp, *] <;> omega)
set_option maxRecDepth 100000 in
theorem cmp_int64 (x y : Int) (w : World) (R : Ending → World → Prop) (hR : R (.returned (.int .i64 (icmp x y))) w) : Calls Try.prog 68 #[.int .i64 x, .int .i64 y] w R := by
  go_enter Try.func68, Try.ntmps68
  go_wp2_with fail
  refine isNaN_int64 _ _ _ ?_
  go_wp2_with fail
  refine isNaN_int64 _ _ _ ?_
  go_wp2_with fail
  all_goals exact fin hR (by simp [icmp, *] <;> omega)

set_option maxRecDepth 100000 in
theorem CompareString (a b : List UInt8) (w : World) (R : Ending → World → Prop) (hR : R (.returned (.int .i64 (Lib.compareBytes a b))) w) : Calls Try.prog 84 #[.string ⟨a.toArray⟩, .string ⟨b.toArray⟩] w R := by
  go_enter Try.func84, Try.ntmps84
  go_wp2
  rw [run_callFunc_extern Try.func97 (by kernel_rfl) (by kernel_rfl) (by kernel_rfl) (e := Extern.BytealgCompare.compare) (by kernel_rfl), Lib.run_compareString]
  simp only [Result.andThen]
  rw [Oper.upon_value]
  go_wp2
  exact hR
set_option maxRecDepth 100000 in
theorem strings_Compare (a b : List UInt8) (w : World) (R : Ending → World → Prop) (hR : R (.returned (.int .i64 (Lib.compareBytes a b))) w) : Calls Try.prog 52 #[.string ⟨a.toArray⟩, .string ⟨b.toArray⟩] w R := by
  go_enter Try.func52, Try.ntmps52
  go_wp2_with fail
  refine CompareString _ _ _ _ ?_
  go_wp2
  exact hR

set_option maxRecDepth 100000 in
/-- cmp.Or of three. -/
theorem Or3 (g : Nat) (a b c : Int) (w : World) (h : CellsAt w g 0 [.int .i64 a, .int .i64 b, .int .i64 c]) (R : Ending → World → Prop) (hR : R (.returned (.int .i64 (or3 a b c))) w) :
    Calls Try.prog 51 #[.slice (some ⟨g, 0, none⟩) 3 3] w R := by
  obtain ⟨h0, h1, h2⟩ := h.c3
  clear h
  go_enter Try.func51, Try.ntmps51
  go_wp2
  go_loop [5, 8] (fun _ t8 => ∃ k : Nat, k ≤ 3 ∧ t8 = .int .i64 k ∧ (0 < k → a = 0) ∧ (1 < k → b = 0) ∧ (2 < k → c = 0)) (fun _ t8 => 3 - (intOf t8).toNat)
  case atStart => exact ⟨0, by omega, rfl, by omega, by omega, by omega⟩
  case round =>
    obtain ⟨k, hk, rfl, k1, k2, k3⟩ := hrel
    have H : Hid (or3 a b c = if a ≠ 0 then a else if b ≠ 0 then b else c) := rfl
    by_cases e0 : k = 0
    · subst e0
      clear k1 k2 k3
      go_wp2_with fail
      · exact fin hR (show Value.int _ _ = Value.int _ _ by rw [H.out, if_pos (by simpa using (by assumption : (a != 0) = true))])
      · go_round
        case rel =>
          have q : (a != 0) = false := by assumption
          exact ⟨1, by omega, by go_num, fun _ => by simpa using q, by omega, by omega⟩
        case measure => simp [intOf]
    by_cases e1 : k = 1
    · subst e1
      have K1 := Lib.hid (k1 (by omega))
      clear k1 k2 k3
      go_wp2_with fail
      · exact fin hR (show Value.int _ _ = Value.int _ _ by rw [H.out, if_neg (by simp [K1.out]), if_pos (by simpa using (by assumption : (b != 0) = true))])
      · go_round
        case rel =>
          have q : (b != 0) = false := by assumption
          exact ⟨2, by omega, by go_num, fun _ => K1.out, fun _ => by simpa using q, by omega⟩
        case measure => simp [intOf]
    by_cases e2 : k = 2
    · subst e2
      have K1 := Lib.hid (k1 (by omega))
      have K2 := Lib.hid (k2 (by omega))
      clear k1 k2 k3
      go_wp2_with fail
      · exact fin hR (show Value.int _ _ = Value.int _ _ by rw [H.out, if_neg (by simp [K1.out]), if_neg (by simp [K2.out])])
      · go_round
        case rel =>
          have q : (c != 0) = false := by assumption
          exact ⟨3, by omega, by go_num, fun _ => K1.out, fun _ => K2.out, fun _ => by simpa using q⟩
        case measure => simp [intOf]
    · obtain rfl : k = 3 := by omega
      have K1 := Lib.hid (k1 (by omega))
      have K2 := Lib.hid (k2 (by omega))
      have K3 := Lib.hid (k3 (by omega))
      clear k1 k2 k3
      go_wp2_with fail
      exact fin hR (show Value.int _ _ = Value.int _ _ by rw [H.out, if_neg (by simp [K1.out]), if_neg (by simp [K2.out]), K3.out])

set_option maxRecDepth 100000 in
theorem lower_any (c : UInt8) (w : World) (R : Ending → World → Prop) (hR : R (.returned (.bool (lowB c))) w) : Calls Try.prog 98 #[.int .u8 c.toNat] w R := by
  go_enter Try.func98, Try.ntmps98
  go_wp2
  all_goals exact fin hR (show Value.bool _ = Value.bool _ by congr 1; rw [Bool.eq_iff_iff]; simp [lowB]; omega)
set_option maxRecDepth 100000 in
theorem digit_any (c : UInt8) (w : World) (R : Ending → World → Prop) (hR : R (.returned (.bool (digB c))) w) : Calls Try.prog 99 #[.int .u8 c.toNat] w R := by
  go_enter Try.func99, Try.ntmps99
  go_wp2
  all_goals exact fin hR (show Value.bool _ = Value.bool _ by congr 1; rw [Bool.eq_iff_iff]; simp [digB]; omega)
set_option maxRecDepth 100000 in
theorem Word_any (s : List UInt8) (w : World) (hs : s.length ≤ 9223372036854775807) (R : Ending → World → Prop) (hR : R (.returned (.bool (wordB s))) w) : Calls Try.prog 86 #[.string ⟨s.toArray⟩] w R := by
  by_cases h1 : s.length < 1
  · go_enter Try.func86, Try.ntmps86
    go_wp2_with fail
    exact fin hR (by simp [wordB]; omega)
  by_cases h2 : 64 < s.length
  · go_enter Try.func86, Try.ntmps86
    go_wp2_with fail
    exact fin hR (by simp [wordB]; omega)
  go_enter Try.func86, Try.ntmps86
  go_wp2_with fail
  refine lower_any _ _ _ ?_
  have hne : s ≠ [] := by intro e; subst e; simp at h1
  have hd : s.head?.map lowB = some (lowB s[0]) := by
    cases s with
    | nil => exact absurd rfl hne
    | cons c r => rfl
  cases hl : lowB s[0]
  · go_wp2_with fail
    exact fin hR (by simp [wordB, hd, hl])
  have Hl := Lib.hid hl
  have Hd := Lib.hid hd
  clear hl hd hne
  go_wp2_with fail
  go_loop [3, 4] (fun t3 _ => ∃ k : Nat, k ≤ s.length ∧ t3 = .int .i64 k ∧ (s.take k).all signB = true) (fun t3 _ => s.length - (intOf t3).toNat)
  case atStart => exact ⟨0, Nat.zero_le _, rfl, rfl⟩
  case round =>
    obtain ⟨k, hk, rfl, hall⟩ := hrel
    have Hall := Lib.hid hall
    clear hall
    by_cases hlt : k < s.length
    · go_wp2_with fail
      generalize hc : s[k] = c at *
      have Hc := Lib.hid hc
      clear hc
      refine lower_any _ _ _ ?_
      cases h3 : lowB c
      · go_wp2_with fail
        refine digit_any _ _ _ ?_
        cases h4 : digB c
        · go_wp2_with fail
          all_goals first
            | (go_round
               case rel => exact ⟨k + 1, by omega, by go_num, by rw [all_take_succ _ _ _ hlt, Hall.out, Hc.out]; first | (simp [signB, *]; done) | simp_all [signB]⟩
               case measure => simp [intOf]; omega)
            | exact fin hR (show Value.bool _ = Value.bool _ by
                congr 1
                have hs : signB c = false := by first | (simp [signB, *]; done) | simp_all [signB]
                have : s.all signB = false := by rw [List.all_eq_false]; exact ⟨c, Hc.out ▸ List.getElem_mem hlt, by simp [hs]⟩
                simp [wordB, this])
        · go_wp2_with fail
          go_round
          case rel => exact ⟨k + 1, by omega, by go_num, by rw [all_take_succ _ _ _ hlt, Hall.out, Hc.out]; simp [signB, h4]⟩
          case measure => simp [intOf]; omega
      · go_wp2_with fail
        go_round
        case rel => exact ⟨k + 1, by omega, by go_num, by rw [all_take_succ _ _ _ hlt, Hall.out, Hc.out]; simp [signB, h3]⟩
        case measure => simp [intOf]; omega
    · go_wp2_with fail
      exact fin hR (show Value.bool _ = Value.bool _ by
        congr 1
        have e : k = s.length := by omega
        have := Hall.out
        rw [e, List.take_length] at this
        simp [wordB, this, Hd.out, Hl.out]; omega)

set_option maxRecDepth 100000 in
set_option maxHeartbeats 1000000 in
theorem word_any (s : List UInt8) (w : World) (hs : s.length ≤ 9223372036854775807) (R : Ending → World → Prop) (hR : ∀ w', Below w.heap.size w w' → R (.returned (.bool (wordB s))) w') : Calls Try.prog 100 #[.string ⟨s.toArray⟩] w R := by
  obtain ⟨cap, w1, hrun, hB1, hsz, hl1, hl2, hc⟩ := run_toBytes (P := Try.prog) (w := w) s 9 147 5 Try.underlying9 Try.underlying147 Try.underlying5 hs
  have Hc := Lib.hid hc
  have Hrun := Lib.hid hrun
  have Hsz := Lib.hid hsz
  clear hc hrun hsz
  go_enter Try.func100, Try.ntmps100
  go_wp2_with fail
  rw [Hrun.out]
  go_wp2_with fail
  go_loop [3, 4, 8, 13, 20] (fun _ _ t8 _ _ => ∃ k : Nat, k ≤ s.length ∧ t8 = .int .i64 k ∧ (s.take k).all signB = true ∧ (0 < k → (s.head?.map lowB).getD false = true)) (fun _ _ t8 _ _ => s.length - (intOf t8).toNat)
  case atStart => exact ⟨0, Nat.zero_le _, rfl, rfl, by omega⟩
  case round =>
    obtain ⟨k, hk, rfl, hall, hfirst⟩ := hrel
    have Hall := Lib.hid hall
    have Hfirst := Lib.hid hfirst
    clear hall hfirst
    by_cases hlt : k < s.length
    · have h0 := Hc.out k (.int .u8 s[k].toNat) (by simp [hlt])
      rw [Nat.zero_add] at h0
      have Hhead : Hid (k = 0 → s.head? = some s[k]) := by
        intro e
        subst e
        cases s with
        | nil => simp at hlt
        | cons c r => rfl
      generalize hx : s[k] = c at *
      have Hx := Lib.hid hx
      clear hx
      by_cases hk0 : k = 0
      · subst hk0
        have Hno : Hid (lowB c = false → wordB s = false) := fun h => by
          simp [wordB, Hhead.out rfl, h]
        go_wp2_with fail
        all_goals first
          | (go_round
             case rel => exact ⟨1, by omega, by go_num, by rw [all_take_succ _ _ _ hlt, Hall.out, Hx.out]; simp [signB, lowB, *], fun _ => by rw [Hhead.out rfl]; simp [lowB, *]⟩
             case measure => simp [intOf]; omega)
          | (rw [Hno.out (by simp [lowB, *]; try omega)] at hR
             exact hR _ hB1)
      · have Hno : Hid (signB c = false → wordB s = false) := fun h => by
          have : s.all signB = false := by rw [List.all_eq_false]; exact ⟨c, Hx.out ▸ List.getElem_mem hlt, by simp [h]⟩
          simp [wordB, this]
        have Hf := Lib.hid (Hfirst.out (by omega))
        clear Hhead
        go_wp2_with fail
        all_goals first
          | (go_round
             case rel => exact ⟨k + 1, by omega, by go_num, by rw [all_take_succ _ _ _ hlt, Hall.out, Hx.out]; first | (simp [signB, lowB, digB, *]; done) | (simp_all [signB, lowB, digB]; done) | (simp [signB, lowB, digB] at *; omega), fun _ => Hf.out⟩
             case measure => simp [intOf]; omega)
          | (rw [Hno.out (by first | (simp [signB, lowB, digB, *]; done) | (simp_all [signB, lowB, digB]; done) | (simp [signB, lowB, digB] at *; omega))] at hR
             exact hR _ hB1)
    · have Hw : Hid (wordB s = (decide (1 ≤ (s.length : Int)) && decide ((s.length : Int) ≤ 64))) := by
        have e : k = s.length := by omega
        have h1 := Hall.out
        rw [e, List.take_length] at h1
        by_cases h0 : 0 < k
        · have h2 := Hfirst.out h0
          unfold wordB
          rw [h1, h2, Bool.and_true, Bool.and_true]
          exact rfl
        · have : s = [] := List.eq_nil_of_length_eq_zero (by omega)
          subst this
          rfl
      go_wp2_with fail
      all_goals exact fin (hR _ hB1) (show Value.bool _ = Value.bool _ by congr 1; rw [Hw.out]; simp [*] <;> omega)
set_option maxRecDepth 100000 in
set_option maxHeartbeats 1000000 in
theorem May_any (v : V) (w : World) (hs : v.s.length ≤ 9223372036854775807) (R : Ending → World → Prop) (hR : ∀ w', Below w.heap.size w w' → R (.returned (.bool (mayB v))) w') :
    Calls Try.prog 57 #[.agg #[.int .i64 v.kind, .int .i64 v.n, .string ⟨v.s.toArray⟩]] w R := by
  by_cases k7 : v.kind = 7
  · by_cases n0 : v.n = 0
    · go_enter Try.func57, Try.ntmps57
      go_wp2_with fail
      refine Word_any _ _ hs _ ?_
      have e : mayB v = wordB v.s := by simp [mayB, k7, n0]
      rw [e] at hR
      go_wp2_with fail
      exact (Below.refl _ _).alloc (Nat.le_refl _) _
    · go_enter Try.func57, Try.ntmps57
      have e : mayB v = false := by simp [mayB, k7, n0]
      rw [e] at hR
      go_wp2_with fail
      exact (Below.refl _ _).alloc (Nat.le_refl _) _
  · go_enter Try.func57, Try.ntmps57
    go_wp2_with fail
    all_goals refine fin (hR _ ((Below.refl _ _).alloc (Nat.le_refl _) _)) (show Value.bool _ = Value.bool _ by congr 1; simp_all [mayB] <;> omega)

set_option maxRecDepth 100000 in
set_option maxHeartbeats 1000000 in
theorem may_any (v : V) (w : World) (hs : v.s.length ≤ 9223372036854775807) (R : Ending → World → Prop) (hR : ∀ w', Below w.heap.size w w' → R (.returned (.bool (mayB v))) w') :
    Calls Try.prog 87 #[.agg #[.int .i64 v.kind, .int .i64 v.n, .string ⟨v.s.toArray⟩]] w R := by
  by_cases k7 : v.kind = 7
  · by_cases n0 : v.n = 0
    · go_enter Try.func87, Try.ntmps87
      go_wp2_with fail
      refine word_any _ _ hs _ fun w1 hB1 => ?_
      have e : mayB v = wordB v.s := by simp [mayB, k7, n0]
      rw [e] at hR
      have hB : Below w.heap.size w w1 := ((Below.refl _ _).alloc (Nat.le_refl _) _).trans (hB1.mono (by simp))
      go_wp2_with fail
      exact hB
    · go_enter Try.func87, Try.ntmps87
      have e : mayB v = false := by simp [mayB, k7, n0]
      rw [e] at hR
      go_wp2_with fail
      exact (Below.refl _ _).alloc (Nat.le_refl _) _
  · go_enter Try.func87, Try.ntmps87
    go_wp2_with fail
    all_goals refine fin (hR _ ((Below.refl _ _).alloc (Nat.le_refl _) _)) (show Value.bool _ = Value.bool _ by congr 1; simp_all [mayB] <;> omega)

set_option maxRecDepth 100000 in
set_option maxHeartbeats 1000000 in
theorem Check_any (v : V) (w : World) (hs : v.s.length ≤ 9223372036854775807) (R : Ending → World → Prop) (hR : ∀ w', Below w.heap.size w w' → R (.returned (.int .i64 (if mayB v then 0 else 10))) w') :
    Calls Try.prog 63 #[.agg #[.int .i64 v.kind, .int .i64 v.n, .string ⟨v.s.toArray⟩]] w R := by
  go_enter Try.func63, Try.ntmps63
  go_wp2_with fail
  refine may_any v _ hs _ fun w1 hB1 => ?_
  have hB : Below w.heap.size w w1 := by first | exact hB1 | exact ((Below.refl _ _).alloc (Nat.le_refl _) _).trans (hB1.mono (by simp))
  cases hm : mayB v <;> rw [hm] at hR <;> clear hm <;> (go_wp2_with fail) <;> exact hB

end Go.Proofs.Yticbhfmpnmolcaa
end

/- How two values stand: value.Compare, and the document's. -/
section
set_option linter.unusedVariables false
set_option linter.unusedSimpArgs false
namespace Go.Proofs.Yticbhfmpnmolcaa
open Go.RowKit

set_option maxHeartbeats 1000000 in
set_option maxRecDepth 100000 in
theorem Compare_any (a b : V) (w : World) (R : Ending → World → Prop) (hR : ∀ w', Below w.heap.size w w' → R (.returned (.int .i64 (cmpV a b))) w') :
    Calls Try.prog 69 #[.agg #[.int .i64 a.kind, .int .i64 a.n, .string ⟨a.s.toArray⟩], .agg #[.int .i64 b.kind, .int .i64 b.n, .string ⟨b.s.toArray⟩]] w R := by
  go_enter Try.func69, Try.ntmps69
  go_wp2_with fail
  refine wp_region_still_tail 15 (by kernel_rfl) (by kernel_rfl) ?_
  change wpStill _ _ (World.drew _) (fun a' => wpList _ _ _ _ a' (World.drew _)) _ _
  simp only [List.take_succ_cons, List.take_zero, List.drop_succ_cons, List.drop_zero]
  repeat still_step
  still_call (cmp_int _ _ _ _ ⟨rfl, rfl⟩)
  repeat still_step
  still_call (cmp_int64 _ _ _ _ ⟨rfl, rfl⟩)
  repeat still_step
  still_call (strings_Compare _ _ _ _ ⟨rfl, rfl⟩)
  refine wpStill_nil ?_
  go_wp2_with fail
  refine Or3 _ _ _ _ _ ((CellsAt.newAt _ [.int .i64 (icmp a.kind b.kind), .int .i64 (icmp a.n b.n), .int .i64 (Lib.compareBytes a.s b.s)] _ (by simp)).drew) _ ?_
  have e : or3 (icmp a.kind b.kind) (icmp a.n b.n) (Lib.compareBytes a.s b.s) = cmpV a b := rfl
  rw [e]
  go_wp2_with fail
  exact ((((Below.refl _ _).alloc (Nat.le_refl _) _).alloc (by simp) _).alloc (by simp; omega) _).drew

set_option maxHeartbeats 1000000 in
set_option maxRecDepth 100000 in
theorem refCompare_any (a b : V) (w : World) (ha : a.s.length ≤ 9223372036854775807) (hb : b.s.length ≤ 9223372036854775807) (R : Ending → World → Prop) (hR : ∀ w', Below w.heap.size w w' → R (.returned (.int .i64 (cmpV a b))) w') :
    Calls Try.prog 58 #[.agg #[.int .i64 a.kind, .int .i64 a.n, .string ⟨a.s.toArray⟩], .agg #[.int .i64 b.kind, .int .i64 b.n, .string ⟨b.s.toArray⟩]] w R := by
  have hB0 : Below w.heap.size w ((w.alloc (.cells #[.int .i64 a.kind, .int .i64 a.n, .string ⟨a.s.toArray⟩] 39)).alloc (.cells #[.int .i64 b.kind, .int .i64 b.n, .string ⟨b.s.toArray⟩] 39)) :=
    ((Below.refl _ _).alloc (Nat.le_refl _) _).alloc (by simp) _
  by_cases h1 : a.kind < b.kind
  · rw [show cmpV a b = -1 by simp [cmpV, or3, icmp, h1]] at hR
    go_enter Try.func58, Try.ntmps58
    go_wp2_with fail
    all_goals exact hB0
  by_cases h2 : b.kind < a.kind
  · rw [show cmpV a b = 1 by simp [cmpV, or3, icmp, h1, h2]] at hR
    go_enter Try.func58, Try.ntmps58
    go_wp2_with fail
    all_goals exact hB0
  by_cases h3 : a.n < b.n
  · rw [show cmpV a b = -1 by simp [cmpV, or3, icmp, h1, h2, h3]] at hR
    go_enter Try.func58, Try.ntmps58
    go_wp2_with fail
    all_goals exact hB0
  by_cases h4 : b.n < a.n
  · rw [show cmpV a b = 1 by simp [cmpV, or3, icmp, h1, h2, h3, h4]] at hR
    go_enter Try.func58, Try.ntmps58
    go_wp2_with fail
    all_goals exact hB0
  rw [show cmpV a b = Lib.compareBytes a.s b.s by simp [cmpV, or3, icmp, h1, h2, h3, h4]] at hR
  go_enter Try.func58, Try.ntmps58
  go_wp2_with fail
  go_loopw [5] (fun t5 wr => ∃ k : Nat, k ≤ a.s.length ∧ k ≤ b.s.length ∧ t5 = .int .i64 k ∧ a.s.take k = b.s.take k ∧ ∃ nq, wr = (World.drewN ((w.alloc (.cells #[.int .i64 a.kind, .int .i64 a.n, .string ⟨a.s.toArray⟩] 39)).alloc (.cells #[.int .i64 b.kind, .int .i64 b.n, .string ⟨b.s.toArray⟩] 39)) nq))
    (fun t5 _ => a.s.length - (intOf t5).toNat)
  case atStart => exact ⟨0, Nat.zero_le _, Nat.zero_le _, rfl, rfl, 0, rfl⟩
  case round =>
    obtain ⟨k, hka, hkb, rfl, htake, nq, rfl⟩ := hrel
    have Htake := Lib.hid htake
    have HB : Below w.heap.size w _ := drewN hB0 nq
    clear htake hB0
    have Hcb := Lib.hid (compareBytes_take a.s b.s k Htake.out hka hkb)
    by_cases hla : k < a.s.length
    · by_cases hlb : k < b.s.length
      · have Hda := Lib.hid (List.drop_eq_getElem_cons hla)
        have Hdb := Lib.hid (List.drop_eq_getElem_cons hlb)
        have Hta := Lib.hid (List.take_succ_eq_append_getElem hla)
        have Htb := Lib.hid (List.take_succ_eq_append_getElem hlb)
        by_cases hxy : a.s[k].toNat < b.s[k].toNat
        · have Hx : Hid (a.s[k] < b.s[k]) := by rw [Hid, UInt8.lt_iff_toNat_lt]; omega
          go_wp2_with fail
          go_quiet (fail)
          go_wp2_with fail
          exact fin (hR _ (HB.trans (by repeat (first | exact Below.refl _ _ | apply drewN)))) (show Value.int _ _ = Value.int _ _ by rw [Hcb.out, Hda.out, Hdb.out]; simp [Lib.compareBytes, Hx.out])
        by_cases hyx : b.s[k].toNat < a.s[k].toNat
        · have Hx : Hid (¬ a.s[k] < b.s[k] ∧ b.s[k] < a.s[k]) := by rw [Hid, UInt8.lt_iff_toNat_lt, UInt8.lt_iff_toNat_lt]; omega
          go_wp2_with fail
          go_quiet (fail)
          go_wp2_with fail
          go_quiet (fail)
          go_wp2_with fail
          exact fin (hR _ (HB.trans (by repeat (first | exact Below.refl _ _ | apply drewN)))) (show Value.int _ _ = Value.int _ _ by rw [Hcb.out, Hda.out, Hdb.out]; simp [Lib.compareBytes, Hx.out])
        · have Hx : Hid (a.s[k] = b.s[k]) := by rw [Hid, ← UInt8.toNat_inj]; omega
          go_wp2_with fail
          go_quiet (fail)
          go_wp2_with fail
          go_quiet (fail)
          go_wp2_with fail
          go_roundw
          case rel => exact ⟨k + 1, by omega, by omega, by go_num, by rw [Hta.out, Htb.out, Htake.out, Hx.out], _, rfl⟩
          case measure => simp [intOf]; omega
      · have Hdb := Lib.hid (List.drop_eq_nil_of_le (show b.s.length ≤ k by omega))
        have Hda := Lib.hid (List.drop_eq_getElem_cons hla)
        go_wp2_with fail
        exact fin (hR _ HB) (show Value.int _ _ = Value.int _ _ by rw [Hcb.out, Hda.out, Hdb.out]; rfl)
    · have Hda := Lib.hid (List.drop_eq_nil_of_le (show a.s.length ≤ k by omega))
      by_cases hlb : k < b.s.length
      · have Hdb := Lib.hid (List.drop_eq_getElem_cons hlb)
        go_wp2_with fail
        exact fin (hR _ HB) (show Value.int _ _ = Value.int _ _ by rw [Hcb.out, Hda.out, Hdb.out]; rfl)
      · have Hdb := Lib.hid (List.drop_eq_nil_of_le (show b.s.length ≤ k by omega))
        go_wp2_with fail
        exact fin (hR _ HB) (show Value.int _ _ = Value.int _ _ by rw [Hcb.out, Hda.out, Hdb.out]; rfl)
end Go.Proofs.Yticbhfmpnmolcaa
end

/- The law SchemaAlters: its walk over the contracts of both Alters. -/
section
set_option linter.unusedVariables false
set_option linter.unusedSimpArgs false
namespace Go.Proofs.Yticbhfmpnmolcaa
open Go.RowKit

end Go.Proofs.Yticbhfmpnmolcaa
end

/- Pieces of slices: 's[:n]' and 's[n:]'. -/
section
set_option linter.unusedVariables false
set_option linter.unusedSimpArgs false
namespace Go.Proofs.Yticbhfmpnmolcaa
open Go.RowKit
section
variable {P : Program} {α : Type} {E : El α} {size lo hi : Nat} {w : World} {a : Option Addr} {cap : Nat} {xs : List α}
theorem Sl.upTo (h : Sl E size lo hi w (.slice a xs.length cap) xs) (t : TypeId) (ht : P.underlying t = some (.slice (P.elem t))) (hsz : ∀ w, (sizeOf (P.elem t)).run P w = .ok size w) (n : Nat) (hn : n ≤ xs.length) :
    ∃ v1, (∀ w', (Instr.slice t (.slice a xs.length cap) none (some (.int .i64 (n : Int))) none).run P w' = .ok v1 w') ∧ Sl E size lo hi w v1 (xs.take n) := by
  obtain ⟨ao, c, e, h1, h2, h3, h4⟩ := h
  injection e with e1 _ e3
  subst e1 e3
  have hl : (xs.take n).length = n := by rw [List.length_take]; omega
  refine ⟨.slice a n cap, fun w' => ?_, a, cap, by rw [hl], by omega, h2, h3, fun hne => ?_⟩
  · rw [run_slice_h w' t a xs.length cap ht .i64 (n : Int) (by omega) (by omega)]
    have ha : a.map (fun x => x.add 0) = a := by
      cases a with
      | none => rfl
      | some x => obtain ⟨b, o, p⟩ := x; simp [Addr.add]
    simp only [hsz, Result.andThen, sliced, Nat.zero_mul, Nat.sub_zero, Int.toNat_natCast]
    split
    · rfl
    · rw [ha]
  · have hx : xs ≠ [] := fun e => hne (by rw [e]; simp)
    obtain ⟨b, off, e, k1, k2, k3⟩ := h4 hx
    refine ⟨b, off, e, k1, k2, fun k hk => ?_⟩
    rw [hl] at hk
    obtain ⟨cs, c1, c2, c3⟩ := k3 k (by omega)
    exact ⟨cs, c1, c2, by simpa using c3⟩
theorem Sl.fromOn (h : Sl E size lo hi w (.slice a xs.length cap) xs) (t : TypeId) (ht : P.underlying t = some (.slice (P.elem t))) (hsz : ∀ w, (sizeOf (P.elem t)).run P w = .ok size w) (n : Nat) (hn : n ≤ xs.length) :
    ∃ v1, (∀ w', (Instr.slice t (.slice a xs.length cap) (some (.int .i64 (n : Int))) none none).run P w' = .ok v1 w') ∧ Sl E size lo hi w v1 (xs.drop n) := by
  have h0 := h
  obtain ⟨ao, c, e, h1, h2, h3, h4⟩ := h
  injection e with e1 _ e3
  subst e1 e3
  refine ⟨sliced a n xs.length cap size, fun w' => ?_, ?_⟩
  · rw [run_slice_l w' t a xs.length cap ht .i64 (n : Int) (by omega) (by omega)]
    simp only [hsz, Result.andThen, Int.toNat_natCast]
  · by_cases hl : n = xs.length
    · subst hl
      rw [List.drop_length]
      unfold sliced
      rw [Nat.sub_self]
      refine Sl.empty _ _ _ _ _ _ _ (by omega) (fun e => ?_)
      split at e
      · have := h3 e; omega
      · cases a with
        | none => have := h3 rfl; omega
        | some a => cases e
    · have hx : xs ≠ [] := fun e => by subst e; simp at hn hl; omega
      obtain ⟨b, off, e, k1, k2, k3⟩ := h4 hx
      subst e
      unfold sliced
      rw [if_neg (by omega)]
      have := Sl.piece (cap := 0) k3 k1 k2 n (xs.length - n) (cap - n) (by omega) (by omega) (by omega)
      rw [List.take_of_length_le (by rw [List.length_drop]; omega)] at this
      simp only [Option.map_some, Addr.add_lit]
      exact this
end
end Go.Proofs.Yticbhfmpnmolcaa
end

/- A range over a function: the statement, and a round of it, in the plain walk. -/
section
set_option linter.unusedVariables false
set_option linter.unusedSimpArgs false
namespace Go.Proofs.Yticbhfmpnmolcaa
open Go.RowKit

section
variable {P : Program}
/-- A loop's record. -/
def recL (fn : FuncId) (tmps : Array Value) (ps : Array Tmp) (assign body : Code) (D : Nat) (st : LoopState) (pe : Option Code) : Loop := { state := st, pending := pe, fn, tmps, params := ps, assign, body, defers := D }
def markD (D : Nat) : Deferred := { target := .collected D, args := #[] }
theorem wp_rangeFunc {g : Operand} {ps : Array Tmp} {assign body : Code} {Q : Exit → Act → World → Prop} {a : Act} {w : World} {gf : Nat} {lb : Array Value} (n : Nat)
    (hg : a.eval g = .func (.func gf) #[] lb) (eg : ∀ args w, (callFunc gf args).run P w = .ok (.enter gf args) w)
    (h : ∀ fn, CallsIn Fence.wide n P gf (#[.func (.yield (w.heap.size + 1)) #[] #[]] ++ lb)
      ((w.alloc (.deferred (some []))).alloc (.loop (recL fn a.tmps ps assign body w.heap.size .ready none)))
      (fun e W2 => (∃ v, e = .returned v) ∧ ∃ st pe, st ≠ .busy ∧ W2.heap[w.heap.size + 1]? = some (.loop (recL fn a.tmps ps assign body w.heap.size st pe)) ∧
        (match pe with
         | none => Q .normal { a with defers := markD w.heap.size :: a.defers } (W2.putObj (w.heap.size + 1) (.loop (recL fn a.tmps ps assign body w.heap.size .exhausted none)))
         | some c => c.wp P Q { a with defers := markD w.heap.size :: a.defers } (W2.putObj (w.heap.size + 1) (.loop (recL fn a.tmps ps assign body w.heap.size .exhausted (some c))))))) :
    (Code.rangeFunc g ps assign body).wp P Q a w := by
  refine (wpIn_wide (n := n + 1)).1 (wpIn_rangeFunc ?_)
  intro fn hfn
  refine ⟨w.heap.size + 1, [markD w.heap.size], ((w.alloc (.deferred (some []))).alloc (.loop (recL fn a.tmps ps assign body w.heap.size .ready none))), { target := .fn (.func gf) lb, args := #[.func (.yield (w.heap.size + 1)) #[] #[]] }, ((w.alloc (.deferred (some []))).alloc (.loop (recL fn a.tmps ps assign body w.heap.size .ready none))), gf,
    #[.func (.yield (w.heap.size + 1)) #[] #[]] ++ lb, ((w.alloc (.deferred (some []))).alloc (.loop (recL fn a.tmps ps assign body w.heap.size .ready none))), run_enterLoop_outer fn a.tmps ps assign body, ?_, ?_, ?_, fun _ => by omega, ?_⟩
  · simp only [resolve, hg]
    simp [go_sem]
  · intro f' hf'
    trivial
  · simp [invoke, go_sem, eg]
  · refine (h fn).mono ?_
    rintro e W2 ⟨⟨v, rfl⟩, st, pe, hst, hl, hq⟩
    refine ⟨pe, _, run_endLoop hl hst, ?_⟩
    cases pe with
    | none => exact hq
    | some c => exact wpIn_wide.2 hq

/-- One round. -/
theorem yieldAt_rec {l : Nat} {fn : FuncId} {tmps : Array Value} {ps : Array Tmp} {assign body : Code} {D : Nat} {W : World} {xs : Array Value} {R : Ending → World → Prop} {n : Nat}
    (hl : W.heap[l]? = some (.loop (recL fn tmps ps assign body D .ready none))) (hs : xs.size = ps.size)
    (h : assign.wpIn (Fence.wide.inRound l) n P (Exit.then (fun a₁ w₁ => w₁.heap[l]? = some (.loop (recL fn tmps ps assign body D .ready none)) ∧
      body.wpIn (Fence.wide.inRound l) n P (roundPost P l R) a₁ (w₁.putObj l (.loop (recL fn tmps ps assign body D .busy none)))) (fun _ _ _ => False))
      { tmps := (ps.zip xs).foldl (fun t (p, v) => t.setIfInBounds p v) tmps, defers := [] } W) :
    YieldAt Fence.wide n P l xs W R := by
  have hy := run_yield (P := P) (args := xs) hl hs
  refine ⟨fn, _, assign, body, hy, roundIn_of_wpIn trivial (wpIn_mono h ?_)⟩
  rintro e a1 w1 hq
  cases e with
  | normal =>
    obtain ⟨hl1, hb⟩ := hq
    exact ⟨_, run_beginRound hl1 rfl, hb⟩
  | exit id => exact hq.elim
  | goto t => exact hq.elim
  | ret => exact hq.elim
  | panic c => exact hq.elim
  | outgrown => exact hq.elim
/-- The end of a round that goes on. -/
theorem roundPost_normal {l : Nat} {fn : FuncId} {tmps : Array Value} {ps : Array Tmp} {assign body : Code} {D : Nat} {W : World} {R : Ending → World → Prop} {a : Act}
    (hl : W.heap[l]? = some (.loop (recL fn tmps ps assign body D .busy none)))
    (h : R (.returned (.bool true)) (W.putObj l (.loop (recL fn tmps ps assign body D .ready none)))) : roundPost P l R .normal a W :=
  ⟨_, _, run_endRound none hl, h⟩
/-- The end of a round that leaves the function. -/
theorem roundPost_ret {l : Nat} {fn : FuncId} {tmps : Array Value} {ps : Array Tmp} {assign body : Code} {D : Nat} {W : World} {R : Ending → World → Prop} {a : Act}
    (hl : W.heap[l]? = some (.loop (recL fn tmps ps assign body D .busy none)))
    (h : R (.returned (.bool false)) (W.putObj l (.loop (recL fn tmps ps assign body D .done (some .ret))))) : roundPost P l R .ret a W :=
  ⟨_, _, run_endRound (some .ret) hl, h⟩
end
end Go.Proofs.Yticbhfmpnmolcaa
end

/- Rounds of a range over a function, for other texts; a region of a round that draws its order. -/
section
set_option linter.unusedVariables false
set_option linter.unusedSimpArgs false
namespace Go.Proofs.Yticbhfmpnmolcaa
open Go.RowKit Go.Shelf
attribute [local go_sem] Oper.semAt_some

/-- Block l holds o. -/
def HeapAt (w : World) (l : Nat) (o : Obj) : Prop := w.heap[l]? = some o
/-- The statement, its record under a name. -/
theorem wp_rangeFuncR {P : Program} {g : Operand} {ps : Array Tmp} {assign body : Code} {Q : Exit → Act → World → Prop} {a : Act} {w : World} {gf : Nat} {lb : Array Value} (n : Nat)
    (hg : a.eval g = .func (.func gf) #[] lb) (eg : ∀ args w, (callFunc gf args).run P w = .ok (.enter gf args) w)
    (h : ∀ fn (RL : LoopState → Option Code → Loop), RL = recL fn a.tmps ps assign body w.heap.size → CallsIn Fence.wide n P gf (#[.func (.yield (w.heap.size + 1)) #[] #[]] ++ lb)
      ((w.alloc (.deferred (some []))).alloc (.loop (RL .ready none)))
      (fun e W2 => (∃ v, e = .returned v) ∧ ∃ st pe, st ≠ .busy ∧ W2.heap[w.heap.size + 1]? = some (.loop (RL st pe)) ∧
        (match pe with
         | none => Q .normal { a with defers := markD w.heap.size :: a.defers } (W2.putObj (w.heap.size + 1) (.loop (RL .exhausted none)))
         | some c => c.wp P Q { a with defers := markD w.heap.size :: a.defers } (W2.putObj (w.heap.size + 1) (.loop (RL .exhausted (some c))))))) :
    (Code.rangeFunc g ps assign body).wp P Q a w := wp_rangeFunc n hg eg (fun fn => h fn _ rfl)
theorem yieldAt_recR {P : Program} {RL : LoopState → Option Code → Loop} {l : Nat} {fn : FuncId} {tmps : Array Value} {ps : Array Tmp} {assign body : Code} {D : Nat} {W : World} {xs : Array Value} {R : Ending → World → Prop} {n : Nat}
    (hRL : RL = recL fn tmps ps assign body D) (hl : W.heap[l]? = some (.loop (RL .ready none))) (hs : xs.size = ps.size)
    (h : assign.wpIn (Fence.wide.inRound l) n P (Exit.then (fun a₁ w₁ => HeapAt w₁ l (.loop (RL .ready none)) ∧
      body.wpIn (Fence.wide.inRound l) n P (roundPost P l R) a₁ (w₁.putObj l (.loop (RL .busy none)))) (fun _ _ _ => False))
      { tmps := (ps.zip xs).foldl (fun t (p, v) => t.setIfInBounds p v) tmps, defers := [] } W) :
    YieldAt Fence.wide n P l xs W R := by subst hRL; exact yieldAt_rec hl hs (wpIn_mono h (fun e a w h => by cases e <;> first | exact ⟨h.1, h.2⟩ | exact h))
theorem roundPost_normalR {P : Program} {RL : LoopState → Option Code → Loop} {l : Nat} {fn : FuncId} {tmps : Array Value} {ps : Array Tmp} {assign body : Code} {D : Nat} {W : World} {R : Ending → World → Prop} {a : Act}
    (hRL : RL = recL fn tmps ps assign body D) (hl : W.heap[l]? = some (.loop (RL .busy none)))
    (h : R (.returned (.bool true)) (W.putObj l (.loop (RL .ready none)))) : roundPost P l R .normal a W := by subst hRL; exact roundPost_normal hl h

section
variable {P : Program} {ops : Array Oper} {Q : Exit → Act → World → Prop} {S : World → Prop} {l n : Nat}
def noDefer (o : Oper) : Bool := match o.op with | .defer _ => false | _ => true
theorem wpIn_of_wp_op {o : Oper} {a : Act} {w : World} {K : Act → World → Prop} (hd : noDefer o = true) (h : o.wp P a w K Q) : o.wpIn (Fence.wide.inRound l) n P a w K Q := by
  have hd' : ∀ c, o.op ≠ .defer c := fun c e => by simp [noDefer, e] at hd
  refine ⟨fun f _ => trivial, ?_⟩
  rw [Oper.semAt_eq _ _ _ hd']
  unfold Oper.wp at h
  generalize (execOp a.eval o).run P w = r at *
  cases r with
  | ok x w' =>
    cases x with
    | value v => exact h
    | skip => exact h
    | defer d => exact h
    | enter f args => exact ⟨fun h => (by cases h), callsIn_wide.2 h⟩
    | row row args =>
      refine ⟨fun h => (by cases h), fun c cs _ => ?_⟩
      obtain ⟨v, w'', h1, h2⟩ := h c cs
      exact ⟨v, w'', h1, stepsIn_wide.2 h2⟩
    | _ => exact h.elim
  | halt x w' =>
    cases x <;> first | exact h | exact h.elim
theorem wpOpsIn_of_wpOps (hd : ops.all noDefer = true) (hQ : ¬ LetsOut Q) : ∀ (L : List Nat) (a : Act) (w : World), wpOps P ops Q L a w → wpOpsIn (Fence.wide.inRound l) n P ops Q L a w := by
  intro L
  induction L with
  | nil => exact fun _ _ h => h
  | cons i rest ih =>
    intro a w h
    unfold wpOps at h
    unfold wpOpsIn
    cases ho : ops[i]? with
    | none => rw [ho] at h; exact ih _ _ h
    | some o =>
      rw [ho] at h
      have hdo : noDefer o = true := by
        obtain ⟨hi, e⟩ := Array.getElem?_eq_some_iff.1 ho
        rw [← e]
        exact (Array.all_eq_true.1 hd) i hi
      simp only at h ⊢
      by_cases hw : Region.wanted o (yielded ops a.tmps) = true
      · rw [if_pos hw] at h ⊢
        rcases h with h | ⟨-, h⟩
        · exact wpIn_of_wp_op hdo (Oper.wp_mono (fun a w => ih a w) h)
        · exact absurd h hQ
      · rw [if_neg hw] at h ⊢
        exact ⟨fun f _ => trivial, ih _ _ h⟩
/-- A region of a round that draws its order: under S, as one outside of rounds. -/
theorem wpIn_region_held {id : Nat} {a : Act} {w : World} (hd : ops.all noDefer = true) (hQ : ¬ LetsOut Q) (hm : P.follows .mixedOrders = true) (hS : S w.drew)
    (h : S w.drew → wpAnyH P .any ops Q S ops.size (Array.replicate ops.size false) a w.drew) : (Code.region id ops true).wpIn (Fence.wide.inRound l) n P Q a w :=
  wpIn_region_draw fun t => by
    simp only [Region.schedule, hm, Bool.true_or, if_true]
    exact wpOpsIn_of_wpOps hd hQ _ _ _ (wpAny_sound ops.size t _ a _ (wpAny_of_held _ _ _ _ (h hS)))
end
end Go.Proofs.Yticbhfmpnmolcaa
end

/- The librarys slices.SortFunc laid at branches. (Printed by layt.py and gen.py.) -/
section
set_option linter.unusedVariables false
set_option linter.unusedSimpArgs false
namespace Go.Proofs.Yticbhfmpnmolcaa
open Go.Shelf
def sortBrs_ren : Go.Shelf.Ren := ⟨fun | 6 => 25 | 15 => 50 | 14 => 49 | 28 => 82 | 29 => 83 | 20 => 74 | 21 => 75 | 22 => 76 | 23 => 77 | 24 => 78 | 25 => 79 | 26 => 80 | 27 => 81 | 46 => 92 | 47 => 93 | 48 => 94 | 49 => 95 | 50 => 96 | 57 => 102 | n => n, fun | 22 => 29 | 24 => 62 | 25 => 70 | 3 => 3 | 39 => 96 | 0 => 0 | 53 => 131 | 55 => 133 | 4 => 4 | 46 => 124 | 45 => 123 | 50 => 128 | 5 => 5 | 9 => 9 | 66 => 137 | 70 => 141 | 76 => 145 | 77 => 71 | n => n, fun | n => n⟩
theorem sortBrs : Go.Proofs.SlLaysF0.n6 Try.prog sortBrs_ren := {
  mixed := by kernel_rfl,
  f6 := ⟨Try.f25.name, by decide, Try.func25.trans (congrArg some (by kernel_rfl))⟩,
  f14 := ⟨Try.f49.name, by decide, Try.func49.trans (congrArg some (by kernel_rfl))⟩,
  f15 := Try.func50.trans (congrArg some (by kernel_rfl)),
  f20 := ⟨Try.f74.name, by decide, Try.func74.trans (congrArg some (by kernel_rfl))⟩,
  f21 := ⟨Try.f75.name, by decide, Try.func75.trans (congrArg some (by kernel_rfl))⟩,
  f22 := ⟨Try.f76.name, by decide, Try.func76.trans (congrArg some (by kernel_rfl))⟩,
  f23 := ⟨Try.f77.name, by decide, Try.func77.trans (congrArg some (by kernel_rfl))⟩,
  f24 := ⟨Try.f78.name, by decide, Try.func78.trans (congrArg some (by kernel_rfl))⟩,
  f25 := ⟨Try.f79.name, by decide, Try.func79.trans (congrArg some (by kernel_rfl))⟩,
  f26 := ⟨Try.f80.name, by decide, Try.func80.trans (congrArg some (by kernel_rfl))⟩,
  f27 := ⟨Try.f81.name, by decide, Try.func81.trans (congrArg some (by kernel_rfl))⟩,
  f28 := Try.func82.trans (congrArg some (by kernel_rfl)),
  f29 := Try.func83.trans (congrArg some (by kernel_rfl)),
  f46 := ⟨Try.f92.name, by decide, Try.func92.trans (congrArg some (by kernel_rfl))⟩,
  f47 := Try.func93.trans (congrArg some (by kernel_rfl)),
  f48 := Try.func94.trans (congrArg some (by kernel_rfl)),
  f49 := ⟨Try.f95.name, by decide, Try.func95.trans (congrArg some (by kernel_rfl))⟩,
  f50 := ⟨Try.f96.name, by decide, Try.func96.trans (congrArg some (by kernel_rfl))⟩,
  f57 := ⟨Try.f102.name, by decide, Try.func102.trans (congrArg some (by kernel_rfl))⟩,
  t0 := Try.underlying0,
  a0 := Try.isAgg0,
  z0 := Try.sizeOf0,
  v0 := Try.zeroValue0,
  t3 := Try.underlying3,
  a3 := Try.isAgg3,
  z3 := Try.sizeOf3,
  v3 := Try.zeroValue3,
  t4 := Try.underlying4,
  a4 := Try.isAgg4,
  z4 := Try.sizeOf4,
  v4 := Try.zeroValue4,
  t5 := Try.underlying5,
  a5 := Try.isAgg5,
  z5 := Try.sizeOf5,
  v5 := Try.zeroValue5,
  t9 := Try.underlying9,
  a9 := Try.isAgg9,
  z9 := Try.sizeOf9,
  v9 := Try.zeroValue9,
  t22 := Try.underlying29,
  a22 := Try.isAgg29,
  z22 := Try.sizeOf29,
  v22 := Try.zeroValue29,
  t25 := Try.underlying70,
  a25 := Try.isAgg70,
  z25 := Try.sizeOf70,
  v25 := Try.zeroValue70,
  t39 := Try.underlying96,
  a39 := Try.isAgg96,
  z39 := Try.sizeOf96,
  v39 := Try.zeroValue96,
  t45 := Try.underlying123,
  a45 := Try.isAgg123,
  z45 := Try.sizeOf123,
  v45 := Try.zeroValue123,
  t46 := Try.underlying124,
  a46 := Try.isAgg124,
  z46 := Try.sizeOf124,
  v46 := Try.zeroValue124,
  t50 := Try.underlying128,
  a50 := Try.isAgg128,
  z50 := Try.sizeOf128,
  v50 := Try.zeroValue128,
  t53 := Try.underlying131,
  a53 := Try.isAgg131,
  z53 := Try.sizeOf131,
  v53 := Try.zeroValue131,
  t55 := Try.underlying133,
  a55 := Try.isAgg133,
  z55 := Try.sizeOf133,
  v55 := Try.zeroValue133,
  t66 := Try.underlying137,
  a66 := Try.isAgg137,
  z66 := Try.sizeOf137,
  v66 := Try.zeroValue137,
  t70 := Try.underlying141,
  a70 := Try.isAgg141,
  z70 := Try.sizeOf141,
  v70 := Try.zeroValue141,
  t76 := Try.underlying145,
  a76 := Try.isAgg145,
  z76 := Try.sizeOf145,
  v76 := Try.zeroValue145,
  t77 := Try.underlying71,
  a77 := Try.isAgg71,
  z77 := Try.sizeOf71,
  v77 := Try.zeroValue71 }
end Go.Proofs.Yticbhfmpnmolcaa
end

/- From the walk of a law to its statement: what all laws of this seat share: arguments opened to plain data, and handed back. -/
section
set_option linter.unusedVariables false
set_option linter.unusedSimpArgs false
namespace Go.Proofs.Yticbhfmpnmolcaa
open Go.ChangeShapes Go.WideShapes Go.ChangeAt Go.RowKit

theorem own : ownKnob Try.prog.godebug = none := by kernel_rfl
theorem laidOut : laidOutB Try.prog = true := by kernel_rfl

section
variable {H : Type} {enc : TypeId × Value → H} {P : Program}
/-- All arguments read behind the call as they read before it. -/
theorem trodAll_below (hl : laidOutB P = true) {W W' : World} (hb : Below W.heap.size W W') : ∀ (ts : List TypeId) (vs : List Value) (ds : List (DataW H)) (ps : List MemPlace),
    (ts.all fun t => P.readableRec t && decide (t < P.types.size)) = true → DataW.TrodAll enc P W 0 (fun _ => true) true ts vs ds ps → DataW.TrodAll enc P W' 0 (fun b => decide (b < W.heap.size)) true ts vs ds ps
  | [], _, _, _, _, h => by obtain ⟨rfl, rfl, rfl⟩ := trodAll_nil h; exact trodAll_mk0
  | t :: ts, _, _, _, hr, h => by
    obtain ⟨v, vs, d, ds, p, q, rfl, rfl, rfl, h1, h2⟩ := trodAll_cons h
    have lt : ∀ x ∈ p, x.block < W.heap.size := by obtain ⟨m, hm⟩ := h1; exact DataW.trod_lt m _ _ _ hm
    simp only [List.all_cons, Bool.and_eq_true, decide_eq_true_eq] at hr
    exact trodAll_cons_mk (Below.trod hl hr.1.1 hr.1.2 h1 hb lt) (trodAll_below hl hb ts vs ds q (by simpa using hr.2) h2)

/-- A slice opened, its elements by 'hel'. -/
theorem open_sl {α : Type} [Inhabited α] {E : El α} {ok : α → Prop} {w : World} {t e : TypeId} {size : Nat} (ht : P.underlying t = some (.slice e)) (hC : P.cellsOf e = size) (hpos : 0 < size)
    (hel : ∀ n cs x, cs.length = size → DataW.trod enc P w 0 (fun _ => true) true n e cs = some x → ∃ a : α, E 0 w.heap.size w cs a ∧ ok a)
    {n : Nat} {v : Value} {x : DataW H × List MemPlace} (h : DataW.trod enc P w 0 (fun _ => true) true n t [v] = some x) : ∃ xs : List α, Sl E size 0 w.heap.size w v xs ∧ ∀ a ∈ xs, ok a := by
  rcases Deep.open_slice ht h with ⟨hcs, _⟩ | ⟨a, len, cap, m, n, D, Pl, hcs, _, hl, hm, hmm, _, hi⟩
  · simp only [List.cons.injEq, and_true] at hcs
    subst hcs
    exact ⟨[], Sl.nil _ _ _ _ _, fun _ h => by cases h⟩
  · simp only [List.cons.injEq, and_true] at hcs
    subst hcs
    simp only [if_true] at hmm
    subst hmm
    rw [hC] at hi
    have hi' : ∀ i, i < len → ∃ y : α × List Value, y.2.length = size ∧ (∀ j, j < size → w.cell? ((a.add (i * size)).add j) = y.2[j]?) ∧ E 0 w.heap.size w y.2 y.1 ∧ ok y.1 := by
      intro i hil
      obtain ⟨cs', hc, ht'⟩ := hi i (by omega)
      obtain ⟨_, hcl, hat⟩ := World.cells?_some hc
      obtain ⟨x, hx, hox⟩ := hel _ _ _ hcl ht'
      exact ⟨(x, cs'), hcl, hat, hx, hox⟩
    have : Inhabited (α × List Value) := ⟨(default, [])⟩
    obtain ⟨f, hf⟩ := Deep.choose_lt hi'
    have hlen : ((List.range len).map fun i => (f i).1).length = len := by simp
    refine ⟨(List.range len).map fun i => (f i).1, ⟨some a, m, by rw [hlen], by rw [hlen]; exact hl, hm, (fun h => by cases h), fun hne => ?_⟩, ?_⟩
    · have h0 : 0 < len := by
        cases len with
        | zero => simp at hne
        | succ k => omega
      obtain ⟨b, off, spot⟩ := a
      obtain ⟨l0, c0, _⟩ := hf 0 h0
      have hc0 := c0 0 hpos
      rw [List.getElem?_eq_getElem (by omega)] at hc0
      have hs : spot = none := by simpa [Addr.add] using World.cell?_spot hc0
      subst hs
      have hb := World.block_lt_of_cell? _ _ hc0
      refine ⟨b, off, rfl, Nat.zero_le _, by simpa [Addr.add] using hb, fun k hk => ?_⟩
      rw [hlen] at hk
      obtain ⟨l1, c1, e1, _⟩ := hf k hk
      refine ⟨(f k).2, l1, fun j v hj => ?_, by simpa using e1⟩
      have hj' : j < size := by have := (List.getElem?_eq_some_iff.1 hj).1; omega
      have := c1 j hj'
      rw [hj, Deep.add_add, Addr.add_lit, ← Nat.add_assoc] at this
      exact this
    · intro x hx
      obtain ⟨i, hi1, rfl⟩ := List.mem_map.1 hx
      exact (hf i (List.mem_range.1 hi1)).2.2.2
end
theorem bd_i64 {n : Int} (h : (Lit.int .i64 n).wf = true) : -9223372036854775808 ≤ n ∧ n ≤ 9223372036854775807 := by simpa [Lit.wf, IntKind.min, IntKind.max, IntKind.signed, IntKind.bits] using h
end Go.Proofs.Yticbhfmpnmolcaa
end
