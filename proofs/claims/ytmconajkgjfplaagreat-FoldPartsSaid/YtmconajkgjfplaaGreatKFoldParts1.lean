/- Texts that the proofs of FoldParts stand on, part 1. -/
import Derived.WalkKit
import Derived.Lib.Hide
import Derived.Deep.AppendSrc
import Derived.Lib.ConvBytes
import Derived.Laws.IdiomStrings
import Derived.Laws.ResultCell
import Derived.Shelf.Abstract
import Derived.Deep.QuietTactic
import Derived.BigQuiet
import Derived.Test.YtmconajkgjfplaaGreatRows
import Derived.ProofKit
import Derived.OpenShut
import Derived.ShutString
import Derived.ChangeOld
import Derived.JoinedCond
import Derived.Deep.Slices
import Derived.Lib.Bytealg
import Derived.Test.YtmconajkgjfplaaGreatProg
import Derived.StillTailTactics
import Derived.OrdersHeld
import Derived.Deep.RegionHeld3
import Derived.Sort.Grow
import Derived.Deep.CutBlock
import Derived.Deep.DeepCutAuto
import Derived.Lib.SliceRun
import Derived.Deep.DrawnRows
import Derived.Laws.Externs
import Derived.Shelf.SlSortCmp.WholeK
import Derived.Shelf.SlSortCmp.Whole1
import Derived.RangeFuncRecord
import Derived.Shelf.SlSortCmp.NoneTotal
/- Plain lemmas on worlds, cells and slices that the walks of this seat use: no function of the program in sight. -/
section
set_option linter.unusedVariables false
set_option linter.unusedSimpArgs false
namespace Go.Proofs.YtmconajkgjfplaaGreat
open Go.RowKit

/-! ### worlds that agree on the blocks from lo on, ahead of hi -/
def Agree (lo hi : Nat) (w w' : World) : Prop := ∀ k, lo ≤ k → k < hi → w'.heap[k]? = w.heap[k]?
theorem Agree.refl (lo hi : Nat) (w : World) : Agree lo hi w w := fun _ _ _ => rfl
theorem Agree.trans {lo hi : Nat} {a b c : World} (h : Agree lo hi a b) (k : Agree lo hi b c) : Agree lo hi a c := fun i h1 h2 => (k i h1 h2).trans (h i h1 h2)
theorem Agree.mono {lo hi lo' hi' : Nat} {a b : World} (h : Agree lo hi a b) (h1 : lo ≤ lo') (h2 : hi' ≤ hi) : Agree lo' hi' a b := fun i k1 k2 => h i (by omega) (by omega)
theorem Agree.below {B lo hi : Nat} {w w' : World} (h : Below B w w') (hh : hi ≤ B) : Agree lo hi w w' := fun k _ h2 => h.block k (by omega)
theorem Agree.setCell {lo hi : Nat} (w : World) {p : Addr} (hp : p.block < lo ∨ hi ≤ p.block) (u : Value) : Agree lo hi w (w.setCell p u) :=
  fun k h1 h2 => Below.heap_setCell w p u k (by omega)
theorem Agree.alloc {lo hi : Nat} (w : World) (o : Obj) (hh : hi ≤ w.heap.size) : Agree lo hi w (w.alloc o) := fun k _ h2 => Below.heap_alloc w o k (by omega)
theorem Agree.cell {lo hi : Nat} {w w' : World} (h : Agree lo hi w w') {p : Addr} (h1 : lo ≤ p.block) (h2 : p.block < hi) : w'.cell? p = w.cell? p := World.cell?_of_block (h p.block h1 h2)
theorem Agree.grown {lo hi : Nat} {w w' : World} {row : Option Nat} (hg : w.grownBy w' row) (hh : hi ≤ w.heap.size) (hr : ∀ k, row = some k → k < lo ∨ hi ≤ k) : Agree lo hi w w' :=
  fun k h1 h2 => hg.block k (by omega) (fun e => by have := hr k e.symm; omega)

/-- The end of a walk: what is returned, spelled otherwise. -/
theorem fin {R : Ending → World → Prop} {v v' : Value} {w : World} (h : R (.returned v) w) (hv : v = v') : R (.returned v') w := hv ▸ h

def CellsAt (w : World) (b o : Nat) (cs : List Value) : Prop := ∀ j v, cs[j]? = some v → w.cell? ⟨b, o + j, none⟩ = some v
theorem CellsAt.agree {lo hi : Nat} {w w' : World} {b o : Nat} {cs : List Value} (h : CellsAt w b o cs) (ha : Agree lo hi w w') (h1 : lo ≤ b) (h2 : b < hi) : CellsAt w' b o cs :=
  fun j v e => (ha.cell (p := ⟨b, o + j, none⟩) h1 h2).trans (h j v e)
theorem CellsAt.new (w : World) (cs : List Value) (t : TypeId) : CellsAt (w.alloc (.cells cs.toArray t)) w.heap.size 0 cs := by
  intro j v e
  rw [Nat.zero_add, World.cell?_alloc_new]
  simpa using e
theorem CellsAt.newAt (w : World) (cs : List Value) (t : TypeId) {n : Nat} (hn : n = w.heap.size) : CellsAt (w.alloc (.cells cs.toArray t)) n 0 cs := hn ▸ CellsAt.new w cs t
theorem CellsAt.drew {w : World} {b o : Nat} {cs : List Value} (h : CellsAt w b o cs) : CellsAt w.drew b o cs := h
theorem CellsAt.c1 {w : World} {b o : Nat} {v0 : Value} (h : CellsAt w b o [v0]) : w.cell? ⟨b, o, none⟩ = some v0 := h 0 _ rfl
theorem CellsAt.c2 {w : World} {b o : Nat} {v0 v1 : Value} (h : CellsAt w b o [v0, v1]) : w.cell? ⟨b, o, none⟩ = some v0 ∧ w.cell? ⟨b, o + 1, none⟩ = some v1 := ⟨h 0 _ rfl, h 1 _ rfl⟩
theorem CellsAt.c3 {w : World} {b o : Nat} {v0 v1 v2 : Value} (h : CellsAt w b o [v0, v1, v2]) :
    w.cell? ⟨b, o, none⟩ = some v0 ∧ w.cell? ⟨b, o + 1, none⟩ = some v1 ∧ w.cell? ⟨b, o + 2, none⟩ = some v2 := ⟨h 0 _ rfl, h 1 _ rfl, h 2 _ rfl⟩
theorem CellsAt.c4 {w : World} {b o : Nat} {v0 v1 v2 v3 : Value} (h : CellsAt w b o [v0, v1, v2, v3]) :
    w.cell? ⟨b, o, none⟩ = some v0 ∧ w.cell? ⟨b, o + 1, none⟩ = some v1 ∧ w.cell? ⟨b, o + 2, none⟩ = some v2 ∧ w.cell? ⟨b, o + 3, none⟩ = some v3 := ⟨h 0 _ rfl, h 1 _ rfl, h 2 _ rfl, h 3 _ rfl⟩
theorem CellsAt.c5 {w : World} {b o : Nat} {v0 v1 v2 v3 v4 : Value} (h : CellsAt w b o [v0, v1, v2, v3, v4]) :
    w.cell? ⟨b, o, none⟩ = some v0 ∧ w.cell? ⟨b, o + 1, none⟩ = some v1 ∧ w.cell? ⟨b, o + 2, none⟩ = some v2 ∧ w.cell? ⟨b, o + 3, none⟩ = some v3 ∧ w.cell? ⟨b, o + 4, none⟩ = some v4 :=
  ⟨h 0 _ rfl, h 1 _ rfl, h 2 _ rfl, h 3 _ rfl, h 4 _ rfl⟩
theorem CellsAt.c6 {w : World} {b o : Nat} {v0 v1 v2 v3 v4 v5 : Value} (h : CellsAt w b o [v0, v1, v2, v3, v4, v5]) :
    w.cell? ⟨b, o, none⟩ = some v0 ∧ w.cell? ⟨b, o + 1, none⟩ = some v1 ∧ w.cell? ⟨b, o + 2, none⟩ = some v2 ∧ w.cell? ⟨b, o + 3, none⟩ = some v3 ∧ w.cell? ⟨b, o + 4, none⟩ = some v4 ∧ w.cell? ⟨b, o + 5, none⟩ = some v5 :=
  ⟨h 0 _ rfl, h 1 _ rfl, h 2 _ rfl, h 3 _ rfl, h 4 _ rfl, h 5 _ rfl⟩
theorem CellsAt.c7 {w : World} {b o : Nat} {v0 v1 v2 v3 v4 v5 v6 : Value} (h : CellsAt w b o [v0, v1, v2, v3, v4, v5, v6]) :
    w.cell? ⟨b, o, none⟩ = some v0 ∧ w.cell? ⟨b, o + 1, none⟩ = some v1 ∧ w.cell? ⟨b, o + 2, none⟩ = some v2 ∧ w.cell? ⟨b, o + 3, none⟩ = some v3 ∧ w.cell? ⟨b, o + 4, none⟩ = some v4 ∧ w.cell? ⟨b, o + 5, none⟩ = some v5 ∧
      w.cell? ⟨b, o + 6, none⟩ = some v6 :=
  ⟨h 0 _ rfl, h 1 _ rfl, h 2 _ rfl, h 3 _ rfl, h 4 _ rfl, h 5 _ rfl, h 6 _ rfl⟩

/-! ### a block that is known whole (a variable of the call's own) -/
def Blk (w : World) (b : Nat) (cs : List Value) (t : TypeId) : Prop := w.heap[b]? = some (.cells cs.toArray t (0, 0))
theorem Blk.new (w : World) (cs : List Value) (t : TypeId) {n : Nat} (hn : n = w.heap.size) : Blk (w.alloc (.cells cs.toArray t)) n cs t := by
  subst hn
  show (w.heap.push _)[w.heap.size]? = _
  simp
theorem Blk.lt {w : World} {b : Nat} {cs : List Value} {t : TypeId} (h : Blk w b cs t) : b < w.heap.size := (Array.getElem?_eq_some_iff.1 h).1
theorem Blk.alloc {w : World} {b : Nat} {cs : List Value} {t : TypeId} (h : Blk w b cs t) (o : Obj) : Blk (w.alloc o) b cs t := (Below.heap_alloc w o b h.lt).trans h
theorem Blk.drew {w : World} {b : Nat} {cs : List Value} {t : TypeId} (h : Blk w b cs t) : Blk w.drew b cs t := h
theorem Blk.drewN {w : World} {b : Nat} {cs : List Value} {t : TypeId} (h : Blk w b cs t) (n : Nat) : Blk (w.drewN n) b cs t := h
theorem Blk.below {B : Nat} {w w' : World} {b : Nat} {cs : List Value} {t : TypeId} (h : Blk w b cs t) (hB : Below B w w') (hb : b < B) : Blk w' b cs t := (hB.block b hb).trans h
theorem Blk.agree {lo hi : Nat} {w w' : World} {b : Nat} {cs : List Value} {t : TypeId} (h : Blk w b cs t) (ha : Agree lo hi w w') (h1 : lo ≤ b) (h2 : b < hi) : Blk w' b cs t := (ha b h1 h2).trans h
theorem Blk.grown {w w' : World} {b : Nat} {cs : List Value} {t : TypeId} {row : Option Nat} (h : Blk w b cs t) (hg : w.grownBy w' row) (hr : row ≠ some b) : Blk w' b cs t := (hg.block b h.lt (fun e => hr e.symm)).trans h
theorem Blk.cells {w : World} {b : Nat} {cs : List Value} {t : TypeId} (h : Blk w b cs t) : CellsAt w b 0 cs := by
  intro j v e
  unfold Blk at h
  simp only [World.cell?, h]
  simpa using e
theorem Blk.free {w : World} {b : Nat} {cs : List Value} {t : TypeId} (h : Blk w b cs t) (i : Nat) : w.frozen? ⟨b, i, none⟩ = false := by
  unfold Blk at h
  simp [World.frozen?, h]
theorem Blk.set {w : World} {b : Nat} {cs : List Value} {t : TypeId} (h : Blk w b cs t) (i : Nat) (v : Value) : Blk (w.setCell ⟨b, i, none⟩ v) b (cs.set i v) t := by
  unfold Blk at *
  simp [World.setCell, Array.getElem?_modify, h]
theorem Blk.other {w : World} {b : Nat} {cs : List Value} {t : TypeId} (h : Blk w b cs t) {p : Addr} (hp : b ≠ p.block) (v : Value) : Blk (w.setCell p v) b cs t := (Below.heap_setCell w p v b hp).trans h

/-! ### results that lie in memory -/
theorem CellsAt.runVar {P : Program} {w : World} {b o : Nat} {cs : List Value} {t : TypeId} (h : CellsAt w b o cs) (hA : ∀ w, (isAgg t).run P w = .ok true w) (hS : ∀ w, (sizeOf t).run P w = .ok cs.length w) :
    (loadVar t ⟨b, o, none⟩).run P w = .ok (.agg cs.toArray) w := by
  have hl := run_loadCells_list (P := P) w ⟨b, o, none⟩ cs (fun j v e => by rw [Addr.add_lit]; exact h j v e)
  simp [Go.loadVar, hA, hS, hl]
theorem CellsAt.runVar1 {P : Program} {w : World} {b o : Nat} {v : Value} {t : TypeId} (h : CellsAt w b o [v]) (hA : ∀ w, (isAgg t).run P w = .ok false w) : (loadVar t ⟨b, o, none⟩).run P w = .ok v w := by
  have := h.c1
  simp [Go.loadVar, hA, load, Sem.run, this]
theorem ret_cell_tmp {P : Program} {fn : Func} {R : Ending → World → Prop} {a : Act} {w : World} {t u : Tmp} {ty : TypeId} {b : Nat} {v1 v2 : Value} (h : fn.results = #[.cell t ty, .tmp u]) (ht : a.tmps.getD t undef = .pointer (some ⟨b, 0, none⟩))
    (hc : (loadVar ty ⟨b, 0, none⟩).run P w = .ok v1 w) (hu : a.tmps.getD u undef = v2) (hd : a.defers = []) (hR : R (.returned (.tuple #[v1, v2])) w) : bodyPost P fn R .ret a w := by
  refine bodyPost_ret (v := .tuple #[v1, v2]) ?_ hd hR
  rw [results_cell_tmp h, ht, hu]
  simp [asAddr, Result.andThen, hc]
theorem ret_cell {P : Program} {fn : Func} {R : Ending → World → Prop} {a : Act} {w : World} {t : Tmp} {ty : TypeId} {b : Nat} {v1 : Value} (h : fn.results = #[.cell t ty]) (ht : a.tmps.getD t undef = .pointer (some ⟨b, 0, none⟩))
    (hc : (loadVar ty ⟨b, 0, none⟩).run P w = .ok v1 w) (hd : a.defers = []) (hR : R (.returned v1) w) : bodyPost P fn R .ret a w := by
  refine bodyPost_ret (v := v1) ?_ hd hR
  simp only [results, h]
  have ht' : (a.tmps[t]?).getD undef = .pointer (some ⟨b, 0, none⟩) := by simpa using ht
  simp [Sem.run_bind, Result.andThen, ht', asAddr, hc]

/-! ### elements, and slices of them -/
/-- Cells say x; all that they lead to lies in the blocks from lo on, ahead of hi. -/
abbrev El (α : Type) := Nat → Nat → World → List Value → α → Prop
/-- Elements that lead nowhere. -/
def flat {α : Type} (enc : α → List Value) : El α := fun _ _ _ cs x => cs = enc x
structure Loc {α : Type} (E : El α) : Prop where
  agree : ∀ {lo hi : Nat} {w w' : World} {cs : List Value} {x : α}, E lo hi w cs x → Agree lo hi w w' → E lo hi w' cs x
  mono : ∀ {lo hi lo' hi' : Nat} {w : World} {cs : List Value} {x : α}, E lo hi w cs x → lo' ≤ lo → hi ≤ hi' → E lo' hi' w cs x
theorem flat_loc {α : Type} (enc : α → List Value) : Loc (flat enc) := ⟨fun h _ => h, fun h _ _ => h⟩

def Sl {α : Type} (E : El α) (size lo hi : Nat) (w : World) (v : Value) (xs : List α) : Prop :=
  ∃ ao cap, v = .slice ao xs.length cap ∧ xs.length ≤ cap ∧ cap ≤ maxLen ∧ (ao = none → cap = 0) ∧
    (xs ≠ [] → ∃ b off, ao = some ⟨b, off, none⟩ ∧ lo ≤ b ∧ b < hi ∧ ∀ (k : Nat) (h : k < xs.length), ∃ cs, cs.length = size ∧ CellsAt w b (off + k * size) cs ∧ E lo hi w cs xs[k])

section
variable {α : Type} {E : El α} {size lo hi : Nat} {w w' : World} {v : Value} {xs : List α}
theorem Sl.agree (h : Sl E size lo hi w v xs) (hE : Loc E) (ha : Agree lo hi w w') : Sl E size lo hi w' v xs := by
  obtain ⟨ao, cap, h1, h2, h3, h4, h5⟩ := h
  refine ⟨ao, cap, h1, h2, h3, h4, fun hne => ?_⟩
  obtain ⟨b, off, e, k1, k2, k3⟩ := h5 hne
  refine ⟨b, off, e, k1, k2, fun k hk => ?_⟩
  obtain ⟨cs, c1, c2, c3⟩ := k3 k hk
  exact ⟨cs, c1, c2.agree ha k1 k2, hE.agree c3 ha⟩
theorem Sl.mono {lo' hi' : Nat} (h : Sl E size lo hi w v xs) (hE : Loc E) (h1 : lo' ≤ lo) (h2 : hi ≤ hi') : Sl E size lo' hi' w v xs := by
  obtain ⟨ao, cap, k1, k2, k3, k4, k5⟩ := h
  refine ⟨ao, cap, k1, k2, k3, k4, fun hne => ?_⟩
  obtain ⟨b, off, e, m1, m2, m3⟩ := k5 hne
  refine ⟨b, off, e, by omega, by omega, fun k hk => ?_⟩
  obtain ⟨cs, c1, c2, c3⟩ := m3 k hk
  exact ⟨cs, c1, c2, hE.mono c3 h1 h2⟩
theorem Sl.below {B : Nat} (h : Sl E size lo hi w v xs) (hE : Loc E) (hB : Below B w w') (hh : hi ≤ B) : Sl E size lo hi w' v xs := h.agree hE (.below hB hh)
theorem Sl.nil (E : El α) (size lo hi : Nat) (w : World) : Sl E size lo hi w (.slice none 0 0) [] := ⟨none, 0, rfl, Nat.le_refl _, by simp [maxLen], fun _ => rfl, fun h => absurd rfl h⟩
theorem Sl.empty (E : El α) (size lo hi : Nat) (w : World) (ao : Option Addr) (cap : Nat) (hc : cap ≤ maxLen) (hn : ao = none → cap = 0) : Sl E size lo hi w (.slice ao 0 cap) [] :=
  ⟨ao, cap, rfl, Nat.zero_le _, hc, hn, fun h => absurd rfl h⟩
theorem Sl.len (h : Sl E size lo hi w v xs) : xs.length ≤ 9223372036854775807 := by
  obtain ⟨ao, cap, _, h2, h3, _⟩ := h
  simp only [maxLen] at h3
  omega
/-- The slice's value, and, as soon as an index is at hand, its address and the element's cells. -/
theorem Sl.form (h : Sl E size lo hi w v xs) : ∃ ao cap, v = .slice ao xs.length cap ∧ xs.length ≤ cap ∧ cap ≤ 9223372036854775807 ∧ (ao = none → cap = 0) ∧
    ∀ (k : Nat) (_ : k < xs.length), ∃ b off, ao = some ⟨b, off, none⟩ ∧ lo ≤ b ∧ b < hi ∧ ∀ (k : Nat) (h : k < xs.length), ∃ cs, cs.length = size ∧ CellsAt w b (off + k * size) cs ∧ E lo hi w cs xs[k] := by
  obtain ⟨ao, cap, h1, h2, h3, h4, h5⟩ := h
  exact ⟨ao, cap, h1, h2, by simpa [maxLen] using h3, h4, fun k hk => h5 (by intro e; subst e; simp at hk)⟩
/-- A piece of a slice that is not empty: 'v[i:i+n]'. -/
theorem Sl.piece {b off cap : Nat} (hc : ∀ (k : Nat) (h : k < xs.length), ∃ cs, cs.length = size ∧ CellsAt w b (off + k * size) cs ∧ E lo hi w cs xs[k]) (h1 : lo ≤ b) (h2 : b < hi) (i n c : Nat) (hn : i + n ≤ xs.length) (hnc : n ≤ c) (hcm : c ≤ maxLen) :
    Sl E size lo hi w (.slice (some ⟨b, off + i * size, none⟩) n c) ((xs.drop i).take n) := by
  have hl : ((xs.drop i).take n).length = n := by rw [List.length_take, List.length_drop]; omega
  refine ⟨_, c, by rw [hl], by omega, hcm, (fun h => by cases h), fun _ => ⟨b, _, rfl, h1, h2, fun k hk => ?_⟩⟩
  rw [hl] at hk
  obtain ⟨cs, k1, k2, k3⟩ := hc (i + k) (by omega)
  refine ⟨cs, k1, ?_, by simpa using k3⟩
  rw [show off + i * size + k * size = off + (i + k) * size by rw [Nat.add_mul, Nat.add_assoc]]
  exact k2
/-- Empty or not. -/
theorem Sl.cases (h : Sl E size lo hi w v xs) : (xs = [] ∧ ∃ ao cap, v = .slice ao 0 cap ∧ cap ≤ 9223372036854775807 ∧ (ao = none → cap = 0)) ∨
    (0 < xs.length ∧ ∃ b off cap, v = .slice (some ⟨b, off, none⟩) xs.length cap ∧ xs.length ≤ cap ∧ cap ≤ 9223372036854775807 ∧ lo ≤ b ∧ b < hi ∧
      ∀ (k : Nat) (h : k < xs.length), ∃ cs, cs.length = size ∧ CellsAt w b (off + k * size) cs ∧ E lo hi w cs xs[k]) := by
  obtain ⟨ao, cap, h1, h2, h3, h4, h5⟩ := h
  have h3' : cap ≤ 9223372036854775807 := by simpa [maxLen] using h3
  cases hx : xs with
  | nil => subst hx; exact .inl ⟨rfl, ao, cap, h1, h3', h4⟩
  | cons x r =>
    obtain ⟨b, off, rfl, k1, k2, k3⟩ := h5 (by simp [hx])
    subst hx
    exact .inr ⟨by simp, b, off, cap, h1, h2, h3', k1, k2, k3⟩
end

/-- An owned row (of the kit's laws on append) as a slice of flat elements. -/
theorem Sl.ofOwn {α : Type} {enc : α → List Value} {size lo : Nat} {w : World} {e : TypeId} {v : Value} {xs : List α} (henc : ∀ x, (enc x).length = size)
    (h : w.ownsRow lo e size v xs.length (xs.flatMap enc)) : Sl (flat enc) size lo w.heap.size w v xs := by
  have hlen : ∀ (l : List α), (l.flatMap enc).length = l.length * size := by
    intro l; induction l with
    | nil => simp
    | cons x r ih => simp [henc, ih, Nat.add_mul, Nat.add_comm]
  rcases h.2 with ⟨rfl, hn⟩ | ⟨g, cap, cur, rfl, hb, hg, hnc, hcm, hcs, htake⟩
  · have : xs = [] := List.eq_nil_of_length_eq_zero hn
    subst this
    exact Sl.nil _ _ _ _ _
  · refine ⟨_, cap, rfl, hnc, hcm, (fun h => by cases h), fun _ => ⟨g, 0, rfl, hb, (Array.getElem?_eq_some_iff.1 hg).1, fun k hk => ⟨enc xs[k], henc _, ?_, rfl⟩⟩⟩
    intro j u hu
    have hj : j < size := by have := (List.getElem?_eq_some_iff.1 hu).1; rwa [henc] at this
    have hx : xs = xs.take k ++ xs[k] :: xs.drop (k + 1) := by rw [← List.drop_eq_getElem_cons hk, List.take_append_drop]
    have h1 : (xs.flatMap enc)[k * size + j]? = some u := by
      have hf : xs.flatMap enc = (xs.take k).flatMap enc ++ (enc xs[k] ++ (xs.drop (k + 1)).flatMap enc) := by
        exact (congrArg (List.flatMap enc) hx).trans (by rw [List.flatMap_append, List.flatMap_cons])
      rw [hf, List.getElem?_append_right (by rw [hlen, List.length_take]; rw [Nat.min_eq_left (by omega)]; omega), hlen, List.length_take, Nat.min_eq_left (by omega), show k * size + j - k * size = j by omega, List.getElem?_append_left (by rw [henc]; exact hj)]
      exact hu
    simp only [World.cell?, hg]
    rw [← htake, List.getElem?_take] at h1
    split at h1
    · simpa using h1
    · cases h1

/-! ### bytes and texts -/
section
variable {P : Program} {w : World}
/-- append onto an owned row, whatever is appended. -/
theorem run_app (base : Nat) (t tx ty e : TypeId) (i : TypeInfo) (z : Value) (size bytes : Nat) (ht : P.underlying t = some (.slice e)) (hi : P.info? e = some i) (hz : i.zero = some z)
    (hsize : i.size = size) (hby : i.bytes = bytes) (hzs : z.cells.size = size) (v : Value) (n : Nat) (xs : List Value) (hown : w.ownsRow base e size v n xs)
    (x : Value) (m : Nat) (news : List Value) (hs : Src P size tx x m news w) (h63 : n + m ≤ maxLen) (hbytes : (n + m) * bytes ≤ 140737488355328) (hbase : base ≤ w.heap.size) :
    ∃ v' w', (Builtin.append_ #[t, tx] ty #[v, x]).run P w = .ok v' w' ∧ w'.ownsRow base e size v' (n + m) (xs ++ news) ∧ w.grownBy w' v.ownBlock ∧ (v'.ownBlock = v.ownBlock ∨ v'.ownBlock = some w.heap.size) := by
  subst hsize
  subst hby
  have hsmall : n + m ≤ 9223372036854775807 := by simp only [maxLen] at h63; omega
  have hlen : (xs ++ news).length = (n + m) * i.size := by rw [List.length_append, hown.1, hs.newsLen, Nat.add_mul]
  have grown : ∀ (old : Nat), old < n + m → ∀ (row : Option Nat),
      (w.drew.alloc (.cells ((xs ++ news).toArray ++ Builtin.zeroCells z.cells (grownCap w (n + m) old e - (n + m))) e)).ownsRow base e i.size
        (.slice (some ⟨w.heap.size, 0, none⟩) (n + m) (grownCap w (n + m) old e)) (n + m) (xs ++ news) ∧
      w.grownBy (w.drew.alloc (.cells ((xs ++ news).toArray ++ Builtin.zeroCells z.cells (grownCap w (n + m) old e - (n + m))) e)) row := by
    intro old ho row
    have hge := grownCap_ge w (n + m) old e
    have hcm : grownCap w (n + m) old e ≤ maxLen := grownCap_le_maxLen w (n + m) old e h63
    refine ⟨⟨hlen, .inr ⟨w.heap.size, _, _, rfl, hbase, heap_alloc_new w.drew _, hge, hcm, ?_, ?_⟩⟩, ⟨rfl, rfl, rfl, by simp, fun k hk _ => Below.heap_alloc w.drew _ k hk⟩⟩
    · simp only [Array.size_append, List.size_toArray, size_zeroCells, hzs, hlen, ← Nat.add_mul]
      congr 1
      omega
    · simp only [Array.toList_append]
      rw [← hlen]
      exact List.take_left
  rcases hown.2 with ⟨rfl, rfl⟩ | ⟨g, cap, cur, rfl, hbg, hg, hnc, hcm, hcs, htake⟩
  · have hx : xs = [] := List.eq_nil_of_length_eq_zero (by simpa using hown.1)
    subst hx
    by_cases hm : m = 0
    · subst hm
      have hn : news = [] := List.eq_nil_of_length_eq_zero (by simpa using hs.newsLen)
      subst hn
      refine ⟨.slice none 0 0, w, ?_, World.ownsRow_nil w base e i.size, ⟨rfl, rfl, rfl, Nat.le_refl _, fun _ _ _ => rfl⟩, .inl rfl⟩
      rcases hs.kind with ⟨e', hk⟩ | hk <;> simp [Builtin.append_, run_underlying ht, run_underlying hk, sizeOf, typeInfo, hi, hs.len, hs.cells]
    · have hr := run_append_grow_src (P := P) w t tx ty e i z ht hi hz none 0 0 [] (run_firstCells_none w.drew i.size 0 0 0) x m news hs (by omega) (by omega)
        (growslice_fits (by omega) hbytes)
      have hgr := grown 0 (by omega) (Value.ownBlock (.slice none 0 0))
      exact ⟨_, _, hr, hgr.1, hgr.2, .inr rfl⟩
  · by_cases hroom : n + m ≤ cap
    · have hfit : n * i.size + news.length ≤ cur.size := by rw [hs.newsLen, hcs, ← Nat.add_mul]; exact Nat.mul_le_mul_right _ hroom
      have hst := run_storeCells_at P g (n * i.size) e news 0 cur w hg (by simpa using hfit) hs.one
      simp only [Nat.add_zero] at hst
      have hr : (Builtin.append_ #[t, tx] ty #[.slice (some ⟨g, 0, none⟩) n cap, x]).run P w =
          .ok (.slice (some ⟨g, 0, none⟩) (n + m) cap) (w.setRow g (cur.toList.take (n * i.size) ++ news ++ cur.toList.drop (n * i.size + news.length)).toArray) := by
        rcases hs.kind with ⟨e', hk⟩ | hk <;> simp [Builtin.append_, run_underlying ht, run_underlying hk, sizeOf, typeInfo, hi, hs.len, hroom, hs.cells, Addr.add_lit, hst]
      refine ⟨_, _, hr, ⟨hlen, .inr ⟨g, cap, _, rfl, hbg, setRow_heap w g cur _ e _ hg, hroom, hcm, ?_, ?_⟩⟩, ⟨rfl, rfl, rfl, by simp, fun k _ hk => setRow_other w g k _ (fun e => hk (by simp [Value.ownBlock, e]))⟩, .inl rfl⟩
      · simp only [List.size_toArray, List.length_append, List.length_take, List.length_drop, Array.length_toList]
        omega
      · rw [htake, ← hlen]
        exact List.take_left
    · have holds : ∀ j u, xs[j]? = some u → w.cell? ((⟨g, 0, none⟩ : Addr).add j) = some u := hown.cells (g := g) rfl
      have hr := run_append_grow_src (P := P) w t tx ty e i z ht hi hz (some ⟨g, 0, none⟩) n cap xs (run_firstCells_some w.drew i.size n ⟨g, 0, none⟩ n cap xs hown.1 (by simpa using holds)) x m news hs (by omega) (by omega)
        (growslice_fits (by omega) hbytes)
      have hgr := grown cap (by omega) (Value.ownBlock (.slice (some ⟨g, 0, none⟩) n cap))
      exact ⟨_, _, hr, hgr.1, hgr.2, .inr rfl⟩
/-- The world behind appends onto b: all old blocks but b's own row are as they were; what came of b lies in that row, or in a new one. -/
structure Appended (w : World) (b : Value) (w' : World) (v' : Value) : Prop where
  grown : w.grownBy w' b.ownBlock
  moved : v'.ownBlock = b.ownBlock ∨ ∃ k, v'.ownBlock = some k ∧ w.heap.size ≤ k
theorem Appended.refl (w : World) (b : Value) : Appended w b w b := ⟨⟨rfl, rfl, rfl, Nat.le_refl _, fun _ _ _ => rfl⟩, .inl rfl⟩
theorem Appended.trans {w1 w2 w3 : World} {a b c : Value} (h : Appended w1 a w2 b) (k : Appended w2 b w3 c) : Appended w1 a w3 c := by
  have hs := h.grown.size
  refine ⟨⟨k.grown.os.trans h.grown.os, k.grown.tape.trans h.grown.tape, k.grown.output.trans h.grown.output, Nat.le_trans hs k.grown.size, fun i hi hne => ?_⟩, ?_⟩
  · refine (k.grown.block i (by omega) ?_).trans (h.grown.block i hi hne)
    rcases h.moved with e | ⟨m, e, hm⟩
    · rw [e]; exact hne
    · rw [e]; intro e2; injection e2 with e2; omega
  · rcases k.moved with e | ⟨m, e, hm⟩
    · rw [e]; exact h.moved
    · exact .inr ⟨m, e, by omega⟩
theorem Appended.step {w1 w2 : World} (b : Value) (h : Below w1.heap.size w1 w2) : Appended w1 b w2 b := ⟨⟨h.os, h.tape, h.output, h.size, fun k hk _ => h.block k hk⟩, .inl rfl⟩
theorem Appended.blk {w w' : World} {a a' : Value} (h : Appended w a w' a') {b : Nat} {cs : List Value} {t : TypeId} (hb : Blk w b cs t) (hne : a.ownBlock ≠ some b) : Blk w' b cs t := hb.grown h.grown hne
/-- A block that is not a's is not what came of a, either. -/
theorem Appended.apart {w w' : World} {a a' : Value} (h : Appended w a w' a') {b : Nat} (hb : b < w.heap.size) (hne : a.ownBlock ≠ some b) : a'.ownBlock ≠ some b := by
  rcases h.moved with e | ⟨k, e, hk⟩
  · rw [e]; exact hne
  · rw [e]; intro e2; injection e2 with e2; omega
theorem Appended.below {w w' : World} {a a' : Value} (h : Appended w a w' a') {B : Nat} (hB : B ≤ w.heap.size) (ha : ∀ k, a.ownBlock = some k → B ≤ k) : Below B w w' := (Below.refl B w).grown h.grown hB ha
theorem Appended.agree {w w' : World} {a a' : Value} (h : Appended w a w' a') {lo hi : Nat} (hh : hi ≤ w.heap.size) (ha : ∀ k, a.ownBlock = some k → k < lo ∨ hi ≤ k) : Agree lo hi w w' := .grown h.grown hh ha

theorem CellsAt.appended {w w' : World} {b o : Nat} {cs : List Value} {a a' : Value} (h : CellsAt w b o cs) (ha : Appended w a w' a') (hb : b < w.heap.size) (hne : a.ownBlock ≠ some b) : CellsAt w' b o cs :=
  h.agree (lo := b) (hi := b + 1) (ha.agree (by omega) (fun k e => by
    have : k ≠ b := fun e2 => hne (e2 ▸ e)
    omega)) (Nat.le_refl _) (by omega)
/-- v is a row of the call's own, in a block from lo on, whose elements are xs. -/
def Own {α : Type} (enc : α → List Value) (e : TypeId) (size lo : Nat) (w : World) (v : Value) (xs : List α) : Prop := w.ownsRow lo e size v xs.length (xs.flatMap enc)
theorem Own.nil {α : Type} (enc : α → List Value) (e : TypeId) (size lo : Nat) (w : World) : Own enc e size lo w (.slice none 0 0) ([] : List α) := World.ownsRow_nil w lo e size
theorem Own.made {α : Type} (enc : α → List Value) (e : TypeId) (size lo : Nat) (w : World) {n : Nat} (hn : n = w.heap.size) (hlo : lo ≤ w.heap.size) : Own enc e size lo (w.alloc (.cells #[] e)) (.slice (some ⟨n, 0, none⟩) 0 0) ([] : List α) := by
  subst hn
  exact World.ownsRow_lit w #[] 0 hlo (Nat.zero_le _) (by simp)
/-- An own row that is not empty. -/
theorem Own.form {α : Type} {enc : α → List Value} {e : TypeId} {size lo : Nat} {w : World} {v : Value} {xs : List α} (h : Own enc e size lo w v xs) (hx : xs ≠ []) :
    ∃ g cap, v = .slice (some ⟨g, 0, none⟩) xs.length cap ∧ lo ≤ g ∧ g < w.heap.size ∧ xs.length ≤ cap ∧ cap ≤ 9223372036854775807 ∧ CellsAt w g 0 (xs.flatMap enc) ∧ ∀ i, w.frozen? ⟨g, i, none⟩ = false := by
  rcases h.2 with ⟨-, hn⟩ | ⟨g, cap, cur, rfl, hb, hg, hnc, hcm, hcs, htake⟩
  · exact absurd (List.eq_nil_of_length_eq_zero hn) hx
  · refine ⟨g, cap, rfl, hb, (Array.getElem?_eq_some_iff.1 hg).1, hnc, by simpa [maxLen] using hcm, fun j u hu => ?_, fun i => by simp [World.frozen?, hg]⟩
    rw [← htake, List.getElem?_take] at hu
    rw [Nat.zero_add]
    simp only [World.cell?, hg]
    split at hu
    · simpa using hu
    · cases hu
theorem Own.lt {α : Type} {enc : α → List Value} {e : TypeId} {size lo : Nat} {w : World} {v : Value} {xs : List α} (h : Own enc e size lo w v xs) : ∀ k, v.ownBlock = some k → lo ≤ k ∧ k < w.heap.size := World.ownsRow.lt h
theorem Own.app {α : Type} {enc : α → List Value} {e : TypeId} {size lo : Nat} {v : Value} {xs ys : List α} (h : Own enc e size lo w v xs) (t tx ty : TypeId) (i : TypeInfo) (z : Value) (bytes : Nat) (ht : P.underlying t = some (.slice e)) (hi : P.info? e = some i)
    (hz : i.zero = some z) (hsize : i.size = size) (hby : i.bytes = bytes) (hzs : z.cells.size = size) {x : Value} (hs : Src P size tx x ys.length (ys.flatMap enc) w) (hb : (xs.length + ys.length) * bytes ≤ 140737488355328) (hb1 : 1 ≤ bytes) (hlo : lo ≤ w.heap.size) :
    ∃ v' w', (Builtin.append_ #[t, tx] ty #[v, x]).run P w = .ok v' w' ∧ Own enc e size lo w' v' (xs ++ ys) ∧ Appended w v w' v' := by
  have h63 : xs.length + ys.length ≤ maxLen := by
    have : (xs.length + ys.length) * 1 ≤ (xs.length + ys.length) * bytes := Nat.mul_le_mul_left _ hb1
    simp only [maxLen]; omega
  obtain ⟨v', w', hr, h1, h2, h3⟩ := run_app lo t tx ty e i z size bytes ht hi hz hsize hby hzs v xs.length _ h x ys.length _ hs h63 hb hlo
  refine ⟨v', w', hr, ?_, h2, ?_⟩
  · unfold Own; rw [List.length_append, List.flatMap_append]; exact h1
  · rcases h3 with h3 | h3
    · exact .inl h3
    · exact .inr ⟨_, h3, Nat.le_refl _⟩
theorem Own.kept {α : Type} {enc : α → List Value} {e : TypeId} {size lo : Nat} {w w' : World} {v : Value} {xs : List α} (h : Own enc e size lo w v xs) (hB : Below w.heap.size w w') : Own enc e size lo w' v xs :=
  World.ownsRow.kept (row := none) h ⟨hB.os, hB.tape, hB.output, hB.size, fun k hk _ => hB.block k hk⟩ (by cases v.ownBlock <;> simp)
theorem Own.setOther {α : Type} {enc : α → List Value} {e : TypeId} {size lo : Nat} {w : World} {v : Value} {xs : List α} (h : Own enc e size lo w v xs) {p : Addr} (hp : v.ownBlock ≠ some p.block) (u : Value) : Own enc e size lo (w.setCell p u) v xs := by
  refine World.ownsRow.kept (row := some p.block) h ⟨rfl, rfl, rfl, by simp, fun k _ hk => Below.heap_setCell _ _ _ _ (fun e => hk (by rw [e]))⟩ (.inr hp)

/-- The walk stops ahead of an append: 'go_wp2_with (at_builtin; refine AtApp.of ?_)'. -/
def AtApp (p : Prop) : Prop := p
theorem AtApp.of {p : Prop} (h : AtApp p) : p := h
theorem AtApp.mk {p : Prop} (h : p) : AtApp p := h
theorem AtApp.go {ops : Array Oper} {rest : List Oper} {o : Oper} {a : Act} {Q : Exit → Act → World → Prop} {s x : Operand} {t tx : TypeId} {v' : Value} {w' : World} {sv xv : Value}
    (hrun : (Builtin.append_ #[t, tx] o.type #[sv, xv]).run P w = .ok v' w') (hgd : o.guard = none) (ho : o.op = .call { callee := .builtin .append, args := #[s, x], argTypes := #[t, tx] }) (hs : a.eval s = sv) (hx : a.eval x = xv)
    (hK : wpList P ops Q rest (a.put o.dst v') w') : AtApp (wpList P ops Q (o :: rest) a w) := by
  refine wpList_plain hgd fun K hK' => ?_
  unfold Oper.wp execOp
  simp only [ho, resolve, invoke, builtin, Sem.run_bind, Sem.run_pure, Result.andThen_ok, List.map_toArray, List.map_cons, List.map_nil, hs, hx, hrun]
  exact hK' _ _ hK

/-- A slice of flat elements, as what is appended. -/
theorem Src.ofSl {α : Type} {enc : α → List Value} {size lo hi : Nat} {v : Value} {xs : List α} (h : Sl (flat enc) size lo hi w v xs) (henc : ∀ x, (enc x).length = size) (hone : ∀ x, ∀ u ∈ enc x, u.oneCell' = true)
    {tx e' : TypeId} (hk : P.underlying tx = some (.slice e')) : Src P size tx v xs.length (xs.flatMap enc) w := by
  have hlen : ∀ (l : List α), (l.flatMap enc).length = l.length * size := by
    intro l; induction l with
    | nil => simp
    | cons x r ih => simp [henc, ih, Nat.add_mul, Nat.add_comm]
  rcases h.cases with ⟨rfl, ao, cap, rfl, -, hn⟩ | ⟨hp, b, off, cap, rfl, -, -, -, -, hc⟩
  · cases ao with
    | none => obtain rfl := hn rfl; exact Src.ofNil w hk 0
    | some a => exact Src.ofSlice w hk a 0 cap [] (by simp) (fun j u hu => by cases hu) (fun u hu => by cases hu)
  · refine Src.ofSlice w hk _ xs.length cap (xs.flatMap enc) (hlen xs) (fun j u hu => ?_) (fun u hu => ?_)
    · have hj : j < xs.length * size := by have := (List.getElem?_eq_some_iff.1 hu).1; rwa [hlen] at this
      have hs : 0 < size := by
        rcases Nat.eq_zero_or_pos size with h0 | h0
        · rw [h0] at hj; simp at hj
        · exact h0
      have hkl : j / size < xs.length := Nat.div_lt_of_lt_mul (by rw [Nat.mul_comm]; exact hj)
      obtain ⟨cs, -, h1, rfl⟩ := hc (j / size) hkl
      have hx : xs = xs.take (j / size) ++ xs[j / size] :: xs.drop (j / size + 1) := by rw [← List.drop_eq_getElem_cons hkl, List.take_append_drop]
      have hf : xs.flatMap enc = (xs.take (j / size)).flatMap enc ++ (enc xs[j / size] ++ (xs.drop (j / size + 1)).flatMap enc) :=
        (congrArg (List.flatMap enc) hx).trans (by rw [List.flatMap_append, List.flatMap_cons])
      have hdm := Nat.div_add_mod j size
      have hml := Nat.mod_lt j hs
      have hcm : size * (j / size) = j / size * size := Nat.mul_comm _ _
      rw [hf, List.getElem?_append_right (by rw [hlen, List.length_take]; rw [Nat.min_eq_left (by omega)]; omega), hlen, List.length_take, Nat.min_eq_left (by omega), show j - j / size * size = j % size by omega, List.getElem?_append_left (by rw [henc]; exact hml)] at hu
      have := h1 _ _ hu
      rw [Addr.add_lit]
      rwa [show off + j / size * size + j % size = off + j by omega] at this
    · obtain ⟨x, -, hx⟩ := List.mem_flatMap.1 hu
      exact hone x u hx
end

theorem drewN {B : Nat} {a w : World} (h : Below B a w) (n : Nat) : Below B a (w.drewN n) := h.trans ⟨rfl, rfl, rfl, Nat.le_refl _, fun _ _ => rfl⟩
theorem all_take_succ {α : Type} (l : List α) (p : α → Bool) (k : Nat) (h : k < l.length) : (l.take (k + 1)).all p = ((l.take k).all p && p l[k]) := by
  rw [List.take_succ_eq_append_getElem h, List.all_append]; simp
end Go.Proofs.YtmconajkgjfplaaGreat
end

/- From the walk of a law to its statement: what all laws of this seat share: arguments opened to plain data, and handed back. -/
section
set_option linter.unusedVariables false
set_option linter.unusedSimpArgs false
namespace Go.Proofs.YtmconajkgjfplaaGreat
open Go.ChangeShapes Go.WideShapes Go.ChangeAt Go.RowKit

theorem own : ownKnob Tryz.prog.godebug = none := by kernel_rfl
theorem laidOut : laidOutB Tryz.prog = true := by kernel_rfl

section
variable {H : Type} {enc : TypeId × Value → H} {P : Program}
/-- All arguments read behind the call as they read before it. -/
theorem trodAll_below (hl : laidOutB P = true) {W W' : World} (hb : Below W.heap.size W W') : ∀ (ts : List TypeId) (vs : List Value) (ds : List (DataW H)) (ps : List MemPlace),
    (ts.all fun t => P.readableRec t && decide (t < P.types.size)) = true → DataW.TrodAll enc P W 0 (fun _ => true) true ts vs ds ps → DataW.TrodAll enc P W' 0 (fun b => decide (b < W.heap.size)) true ts vs ds ps
  | [], _, _, _, _, h => by obtain ⟨rfl, rfl, rfl⟩ := trodAll_nil h; exact trodAll_mk0
  | t :: ts, _, _, _, hr, h => by
    obtain ⟨v, vs, d, ds, p, q, rfl, rfl, rfl, h1, h2⟩ := trodAll_cons h
    have lt : ∀ x ∈ p, x.block < W.heap.size := by obtain ⟨m, hm⟩ := h1; exact DataW.trod_lt m _ _ _ hm
    simp only [List.all_cons, Bool.and_eq_true, decide_eq_true_eq] at hr
    exact trodAll_cons_mk (Below.trod hl hr.1.1 hr.1.2 h1 hb lt) (trodAll_below hl hb ts vs ds q (by simpa using hr.2) h2)

/-- A slice opened, its elements by 'hel'. -/
theorem open_sl {α : Type} [Inhabited α] {E : El α} {ok : α → Prop} {w : World} {t e : TypeId} {size : Nat} (ht : P.underlying t = some (.slice e)) (hC : P.cellsOf e = size) (hpos : 0 < size)
    (hel : ∀ n cs x, cs.length = size → DataW.trod enc P w 0 (fun _ => true) true n e cs = some x → ∃ a : α, E 0 w.heap.size w cs a ∧ ok a)
    {n : Nat} {v : Value} {x : DataW H × List MemPlace} (h : DataW.trod enc P w 0 (fun _ => true) true n t [v] = some x) : ∃ xs : List α, Sl E size 0 w.heap.size w v xs ∧ ∀ a ∈ xs, ok a := by
  rcases Deep.open_slice ht h with ⟨hcs, _⟩ | ⟨a, len, cap, m, n, D, Pl, hcs, _, hl, hm, hmm, _, hi⟩
  · simp only [List.cons.injEq, and_true] at hcs
    subst hcs
    exact ⟨[], Sl.nil _ _ _ _ _, fun _ h => by cases h⟩
  · simp only [List.cons.injEq, and_true] at hcs
    subst hcs
    simp only [if_true] at hmm
    subst hmm
    rw [hC] at hi
    have hi' : ∀ i, i < len → ∃ y : α × List Value, y.2.length = size ∧ (∀ j, j < size → w.cell? ((a.add (i * size)).add j) = y.2[j]?) ∧ E 0 w.heap.size w y.2 y.1 ∧ ok y.1 := by
      intro i hil
      obtain ⟨cs', hc, ht'⟩ := hi i (by omega)
      obtain ⟨_, hcl, hat⟩ := World.cells?_some hc
      obtain ⟨x, hx, hox⟩ := hel _ _ _ hcl ht'
      exact ⟨(x, cs'), hcl, hat, hx, hox⟩
    have : Inhabited (α × List Value) := ⟨(default, [])⟩
    obtain ⟨f, hf⟩ := Deep.choose_lt hi'
    have hlen : ((List.range len).map fun i => (f i).1).length = len := by simp
    refine ⟨(List.range len).map fun i => (f i).1, ⟨some a, m, by rw [hlen], by rw [hlen]; exact hl, hm, (fun h => by cases h), fun hne => ?_⟩, ?_⟩
    · have h0 : 0 < len := by
        cases len with
        | zero => simp at hne
        | succ k => omega
      obtain ⟨b, off, spot⟩ := a
      obtain ⟨l0, c0, _⟩ := hf 0 h0
      have hc0 := c0 0 hpos
      rw [List.getElem?_eq_getElem (by omega)] at hc0
      have hs : spot = none := by simpa [Addr.add] using World.cell?_spot hc0
      subst hs
      have hb := World.block_lt_of_cell? _ _ hc0
      refine ⟨b, off, rfl, Nat.zero_le _, by simpa [Addr.add] using hb, fun k hk => ?_⟩
      rw [hlen] at hk
      obtain ⟨l1, c1, e1, _⟩ := hf k hk
      refine ⟨(f k).2, l1, fun j v hj => ?_, by simpa using e1⟩
      have hj' : j < size := by have := (List.getElem?_eq_some_iff.1 hj).1; omega
      have := c1 j hj'
      rw [hj, Deep.add_add, Addr.add_lit, ← Nat.add_assoc] at this
      exact this
    · intro x hx
      obtain ⟨i, hi1, rfl⟩ := List.mem_map.1 hx
      exact (hf i (List.mem_range.1 hi1)).2.2.2
end
theorem bd_i64 {n : Int} (h : (Lit.int .i64 n).wf = true) : -9223372036854775808 ≤ n ∧ n ≤ 9223372036854775807 := by simpa [Lit.wf, IntKind.min, IntKind.max, IntKind.signed, IntKind.bits] using h
end Go.Proofs.YtmconajkgjfplaaGreat
end

/- Values, as plain data: which may be, and how two stand. No program in sight. -/
section
set_option linter.unusedVariables false
set_option linter.unusedSimpArgs false
namespace Go.Proofs.YtmconajkgjfplaaGreat

/-- A value: its kind, its number, its text. -/
structure V where
  kind : Int
  n : Int
  s : List UInt8
deriving DecidableEq
instance : Inhabited V := ⟨⟨0, 0, []⟩⟩
def V.enc (v : V) : List Value := [.int .i64 v.kind, .int .i64 v.n, .string ⟨v.s.toArray⟩]

def icmp (a b : Int) : Int := if a < b then -1 else if b < a then 1 else 0
theorem icmp_lt {a b : Int} (h : a < b) : icmp a b = -1 := by simp [icmp, h]
theorem icmp_gt {a b : Int} (h : b < a) : icmp a b = 1 := by simp [icmp, h]; omega
/-- Three numbers: the first that is not 0. -/
def or3 (a b c : Int) : Int := if a ≠ 0 then a else if b ≠ 0 then b else c
def cmpV (a b : V) : Int := or3 (icmp a.kind b.kind) (icmp a.n b.n) (Lib.compareBytes a.s b.s)

theorem compareBytes_take (a b : List UInt8) (k : Nat) (h : a.take k = b.take k) (ha : k ≤ a.length) (hb : k ≤ b.length) : Lib.compareBytes a b = Lib.compareBytes (a.drop k) (b.drop k) := by
  induction k generalizing a b with
  | zero => rfl
  | succ k ih =>
    match a, b, ha, hb with
    | x :: a, y :: b, ha, hb =>
      simp only [List.take_succ_cons, List.cons.injEq] at h
      obtain ⟨rfl, h⟩ := h
      simp only [List.drop_succ_cons]
      rw [← ih a b h (by simpa using ha) (by simpa using hb)]
      simp [Lib.compareBytes]
end Go.Proofs.YtmconajkgjfplaaGreat
end

/- The walks of package value, of cmp and strings as it calls them, and of the document's answer for values. -/
section
set_option linter.unusedVariables false
set_option linter.unusedSimpArgs false
namespace Go.Proofs.YtmconajkgjfplaaGreat
open Go.RowKit

set_option maxRecDepth 100000 in
theorem isNaN_int (x : Int) (w : World) (R : Ending → World → Prop) (hR : R (.returned (.bool false)) w) : Calls Tryz.prog 62 #[.int .i64 x] w R := by
  go_enter Tryz.func62, Tryz.ntmps62
  go_wp2
  exact hR
set_option maxRecDepth 100000 in
theorem isNaN_int64 (x : Int) (w : World) (R : Ending → World → Prop) (hR : R (.returned (.bool false)) w) : Calls Tryz.prog 69 #[.int .i64 x] w R := by
  go_enter Tryz.func69, Tryz.ntmps69
  go_wp2
  exact hR

set_option maxRecDepth 100000 in
theorem cmp_int (x y : Int) (w : World) (R : Ending → World → Prop) (hR : R (.returned (.int .i64 (icmp x y))) w) : Calls Tryz.prog 31 #[.int .i64 x, .int .i64 y] w R := by
  go_enter Tryz.func31, Tryz.ntmps31
  go_wp2_with fail
  refine isNaN_int _ _ _ ?_
  go_wp2_with fail
  refine isNaN_int _ _ _ ?_
  go_wp2_with fail
  all_goals exact fin hR (by simp [icmp, *] <;> omega)
set_option maxRecDepth 100000 in
theorem cmp_int64 (x y : Int) (w : World) (R : Ending → World → Prop) (hR : R (.returned (.int .i64 (icmp x y))) w) : Calls Tryz.prog 38 #[.int .i64 x, .int .i64 y] w R := by
  go_enter Tryz.func38, Tryz.ntmps38
  go_wp2_with fail
  refine isNaN_int64 _ _ _ ?_
  go_wp2_with fail
  refine isNaN_int64 _ _ _ ?_
  go_wp2_with fail
  all_goals exact fin hR (by simp [icmp, *] <;> omega)

set_option maxRecDepth 100000 in
theorem CompareString (a b : List UInt8) (w : World) (R : Ending → World → Prop) (hR : R (.returned (.int .i64 (Lib.compareBytes a b))) w) : Calls Tryz.prog 70 #[.string ⟨a.toArray⟩, .string ⟨b.toArray⟩] w R := by
  go_enter Tryz.func70, Tryz.ntmps70
  go_wp2
  rw [run_callFunc_extern Tryz.func90 (by kernel_rfl) (by kernel_rfl) (by kernel_rfl) (e := Extern.BytealgCompare.compare) (by kernel_rfl), Lib.run_compareString]
  simp only [Result.andThen]
  rw [Oper.upon_value]
  go_wp2
  exact hR
set_option maxRecDepth 100000 in
theorem strings_Compare (a b : List UInt8) (w : World) (R : Ending → World → Prop) (hR : R (.returned (.int .i64 (Lib.compareBytes a b))) w) : Calls Tryz.prog 39 #[.string ⟨a.toArray⟩, .string ⟨b.toArray⟩] w R := by
  go_enter Tryz.func39, Tryz.ntmps39
  go_wp2_with fail
  refine CompareString _ _ _ _ ?_
  go_wp2
  exact hR

set_option maxRecDepth 100000 in
/-- cmp.Or of three. -/
theorem Or3 (g : Nat) (a b c : Int) (w : World) (h : CellsAt w g 0 [.int .i64 a, .int .i64 b, .int .i64 c]) (R : Ending → World → Prop) (hR : R (.returned (.int .i64 (or3 a b c))) w) :
    Calls Tryz.prog 37 #[.slice (some ⟨g, 0, none⟩) 3 3] w R := by
  obtain ⟨h0, h1, h2⟩ := h.c3
  clear h
  go_enter Tryz.func37, Tryz.ntmps37
  go_wp2
  go_loop [5, 8] (fun _ t8 => ∃ k : Nat, k ≤ 3 ∧ t8 = .int .i64 k ∧ (0 < k → a = 0) ∧ (1 < k → b = 0) ∧ (2 < k → c = 0)) (fun _ t8 => 3 - (intOf t8).toNat)
  case atStart => exact ⟨0, by omega, rfl, by omega, by omega, by omega⟩
  case round =>
    obtain ⟨k, hk, rfl, k1, k2, k3⟩ := hrel
    have H : Hid (or3 a b c = if a ≠ 0 then a else if b ≠ 0 then b else c) := rfl
    by_cases e0 : k = 0
    · subst e0
      clear k1 k2 k3
      go_wp2_with fail
      · exact fin hR (show Value.int _ _ = Value.int _ _ by rw [H.out, if_pos (by simpa using (by assumption : (a != 0) = true))])
      · go_round
        case rel =>
          have q : (a != 0) = false := by assumption
          exact ⟨1, by omega, by go_num, fun _ => by simpa using q, by omega, by omega⟩
        case measure => simp [intOf]
    by_cases e1 : k = 1
    · subst e1
      have K1 := Lib.hid (k1 (by omega))
      clear k1 k2 k3
      go_wp2_with fail
      · exact fin hR (show Value.int _ _ = Value.int _ _ by rw [H.out, if_neg (by simp [K1.out]), if_pos (by simpa using (by assumption : (b != 0) = true))])
      · go_round
        case rel =>
          have q : (b != 0) = false := by assumption
          exact ⟨2, by omega, by go_num, fun _ => K1.out, fun _ => by simpa using q, by omega⟩
        case measure => simp [intOf]
    by_cases e2 : k = 2
    · subst e2
      have K1 := Lib.hid (k1 (by omega))
      have K2 := Lib.hid (k2 (by omega))
      clear k1 k2 k3
      go_wp2_with fail
      · exact fin hR (show Value.int _ _ = Value.int _ _ by rw [H.out, if_neg (by simp [K1.out]), if_neg (by simp [K2.out])])
      · go_round
        case rel =>
          have q : (c != 0) = false := by assumption
          exact ⟨3, by omega, by go_num, fun _ => K1.out, fun _ => K2.out, fun _ => by simpa using q⟩
        case measure => simp [intOf]
    · obtain rfl : k = 3 := by omega
      have K1 := Lib.hid (k1 (by omega))
      have K2 := Lib.hid (k2 (by omega))
      have K3 := Lib.hid (k3 (by omega))
      clear k1 k2 k3
      go_wp2_with fail
      exact fin hR (show Value.int _ _ = Value.int _ _ by rw [H.out, if_neg (by simp [K1.out]), if_neg (by simp [K2.out]), K3.out])

end Go.Proofs.YtmconajkgjfplaaGreat
end

/- How two values stand: value.Compare, and the document's. -/
section
set_option linter.unusedVariables false
set_option linter.unusedSimpArgs false
namespace Go.Proofs.YtmconajkgjfplaaGreat
open Go.RowKit

set_option maxHeartbeats 1000000 in
set_option maxRecDepth 100000 in
theorem Compare_any (a b : V) (w : World) (R : Ending → World → Prop) (hR : ∀ w', Below w.heap.size w w' → R (.returned (.int .i64 (cmpV a b))) w') :
    Calls Tryz.prog 14 #[.agg #[.int .i64 a.kind, .int .i64 a.n, .string ⟨a.s.toArray⟩], .agg #[.int .i64 b.kind, .int .i64 b.n, .string ⟨b.s.toArray⟩]] w R := by
  go_enter Tryz.func14, Tryz.ntmps14
  go_wp2_with fail
  refine wp_region_still_tail 15 (by kernel_rfl) (by kernel_rfl) ?_
  change wpStill _ _ (World.drew _) (fun a' => wpList _ _ _ _ a' (World.drew _)) _ _
  simp only [List.take_succ_cons, List.take_zero, List.drop_succ_cons, List.drop_zero]
  repeat still_step
  still_call (cmp_int _ _ _ _ ⟨rfl, rfl⟩)
  repeat still_step
  still_call (cmp_int64 _ _ _ _ ⟨rfl, rfl⟩)
  repeat still_step
  still_call (strings_Compare _ _ _ _ ⟨rfl, rfl⟩)
  refine wpStill_nil ?_
  go_wp2_with fail
  refine Or3 _ _ _ _ _ ((CellsAt.newAt _ [.int .i64 (icmp a.kind b.kind), .int .i64 (icmp a.n b.n), .int .i64 (Lib.compareBytes a.s b.s)] _ (by simp)).drew) _ ?_
  have e : or3 (icmp a.kind b.kind) (icmp a.n b.n) (Lib.compareBytes a.s b.s) = cmpV a b := rfl
  rw [e]
  go_wp2_with fail
  exact ((((Below.refl _ _).alloc (Nat.le_refl _) _).alloc (by simp) _).alloc (by simp; omega) _).drew

set_option maxHeartbeats 1000000 in
set_option maxRecDepth 100000 in
theorem refCompare_any (a b : V) (w : World) (ha : a.s.length ≤ 9223372036854775807) (hb : b.s.length ≤ 9223372036854775807) (R : Ending → World → Prop) (hR : ∀ w', Below w.heap.size w w' → R (.returned (.int .i64 (cmpV a b))) w') :
    Calls Tryz.prog 79 #[.agg #[.int .i64 a.kind, .int .i64 a.n, .string ⟨a.s.toArray⟩], .agg #[.int .i64 b.kind, .int .i64 b.n, .string ⟨b.s.toArray⟩]] w R := by
  have hB0 : Below w.heap.size w ((w.alloc (.cells #[.int .i64 a.kind, .int .i64 a.n, .string ⟨a.s.toArray⟩] 44)).alloc (.cells #[.int .i64 b.kind, .int .i64 b.n, .string ⟨b.s.toArray⟩] 44)) :=
    ((Below.refl _ _).alloc (Nat.le_refl _) _).alloc (by simp) _
  by_cases h1 : a.kind < b.kind
  · rw [show cmpV a b = -1 by simp [cmpV, or3, icmp, h1]] at hR
    go_enter Tryz.func79, Tryz.ntmps79
    go_wp2_with fail
    all_goals exact hB0
  by_cases h2 : b.kind < a.kind
  · rw [show cmpV a b = 1 by simp [cmpV, or3, icmp, h1, h2]] at hR
    go_enter Tryz.func79, Tryz.ntmps79
    go_wp2_with fail
    all_goals exact hB0
  by_cases h3 : a.n < b.n
  · rw [show cmpV a b = -1 by simp [cmpV, or3, icmp, h1, h2, h3]] at hR
    go_enter Tryz.func79, Tryz.ntmps79
    go_wp2_with fail
    all_goals exact hB0
  by_cases h4 : b.n < a.n
  · rw [show cmpV a b = 1 by simp [cmpV, or3, icmp, h1, h2, h3, h4]] at hR
    go_enter Tryz.func79, Tryz.ntmps79
    go_wp2_with fail
    all_goals exact hB0
  rw [show cmpV a b = Lib.compareBytes a.s b.s by simp [cmpV, or3, icmp, h1, h2, h3, h4]] at hR
  go_enter Tryz.func79, Tryz.ntmps79
  go_wp2_with fail
  go_loopw [5] (fun t5 wr => ∃ k : Nat, k ≤ a.s.length ∧ k ≤ b.s.length ∧ t5 = .int .i64 k ∧ a.s.take k = b.s.take k ∧ ∃ nq, wr = (World.drewN ((w.alloc (.cells #[.int .i64 a.kind, .int .i64 a.n, .string ⟨a.s.toArray⟩] 44)).alloc (.cells #[.int .i64 b.kind, .int .i64 b.n, .string ⟨b.s.toArray⟩] 44)) nq))
    (fun t5 _ => a.s.length - (intOf t5).toNat)
  case atStart => exact ⟨0, Nat.zero_le _, Nat.zero_le _, rfl, rfl, 0, rfl⟩
  case round =>
    obtain ⟨k, hka, hkb, rfl, htake, nq, rfl⟩ := hrel
    have Htake := Lib.hid htake
    have HB : Below w.heap.size w _ := drewN hB0 nq
    clear htake hB0
    have Hcb := Lib.hid (compareBytes_take a.s b.s k Htake.out hka hkb)
    by_cases hla : k < a.s.length
    · by_cases hlb : k < b.s.length
      · have Hda := Lib.hid (List.drop_eq_getElem_cons hla)
        have Hdb := Lib.hid (List.drop_eq_getElem_cons hlb)
        have Hta := Lib.hid (List.take_succ_eq_append_getElem hla)
        have Htb := Lib.hid (List.take_succ_eq_append_getElem hlb)
        by_cases hxy : a.s[k].toNat < b.s[k].toNat
        · have Hx : Hid (a.s[k] < b.s[k]) := by rw [Hid, UInt8.lt_iff_toNat_lt]; omega
          go_wp2_with fail
          go_quiet (fail)
          go_wp2_with fail
          exact fin (hR _ (HB.trans (by repeat (first | exact Below.refl _ _ | apply drewN)))) (show Value.int _ _ = Value.int _ _ by rw [Hcb.out, Hda.out, Hdb.out]; simp [Lib.compareBytes, Hx.out])
        by_cases hyx : b.s[k].toNat < a.s[k].toNat
        · have Hx : Hid (¬ a.s[k] < b.s[k] ∧ b.s[k] < a.s[k]) := by rw [Hid, UInt8.lt_iff_toNat_lt, UInt8.lt_iff_toNat_lt]; omega
          go_wp2_with fail
          go_quiet (fail)
          go_wp2_with fail
          go_quiet (fail)
          go_wp2_with fail
          exact fin (hR _ (HB.trans (by repeat (first | exact Below.refl _ _ | apply drewN)))) (show Value.int _ _ = Value.int _ _ by rw [Hcb.out, Hda.out, Hdb.out]; simp [Lib.compareBytes, Hx.out])
        · have Hx : Hid (a.s[k] = b.s[k]) := by rw [Hid, ← UInt8.toNat_inj]; omega
          go_wp2_with fail
          go_quiet (fail)
          go_wp2_with fail
          go_quiet (fail)
          go_wp2_with fail
          go_roundw
          case rel => exact ⟨k + 1, by omega, by omega, by go_num, by rw [Hta.out, Htb.out, Htake.out, Hx.out], _, rfl⟩
          case measure => simp [intOf]; omega
      · have Hdb := Lib.hid (List.drop_eq_nil_of_le (show b.s.length ≤ k by omega))
        have Hda := Lib.hid (List.drop_eq_getElem_cons hla)
        go_wp2_with fail
        exact fin (hR _ HB) (show Value.int _ _ = Value.int _ _ by rw [Hcb.out, Hda.out, Hdb.out]; rfl)
    · have Hda := Lib.hid (List.drop_eq_nil_of_le (show a.s.length ≤ k by omega))
      by_cases hlb : k < b.s.length
      · have Hdb := Lib.hid (List.drop_eq_getElem_cons hlb)
        go_wp2_with fail
        exact fin (hR _ HB) (show Value.int _ _ = Value.int _ _ by rw [Hcb.out, Hda.out, Hdb.out]; rfl)
      · have Hdb := Lib.hid (List.drop_eq_nil_of_le (show b.s.length ≤ k by omega))
        go_wp2_with fail
        exact fin (hR _ HB) (show Value.int _ _ = Value.int _ _ by rw [Hcb.out, Hda.out, Hdb.out]; rfl)
end Go.Proofs.YtmconajkgjfplaaGreat
end

/- Steps of a region that draws its order: what comes up next yields a value, skips, or calls. -/
section
set_option linter.unusedVariables false
set_option linter.unusedSimpArgs false
namespace Go.Proofs.YtmconajkgjfplaaGreat
open Go.RowKit
theorem wantedIte {c : Bool} {p q : Prop} (hc : c = true) (h : p) : if c = true then p else q := by rw [if_pos hc]; exact h
theorem opVal {P : Program} {o : Oper} {a : Act} {w : World} {K : Act → World → Prop} {Q : Exit → Act → World → Prop} {v : Value} {w' : World} (h : (execOp a.eval o).run P w = .ok (.value v) w') (hK : K (a.put o.dst v) w') : Oper.wp P o a w K Q := by
  unfold Oper.wp
  rw [h]
  exact hK
theorem opSkip {P : Program} {o : Oper} {a : Act} {w : World} {K : Act → World → Prop} {Q : Exit → Act → World → Prop} {w' : World} (h : (execOp a.eval o).run P w = .ok .skip w') (hK : K (a.put o.dst undef) w') : Oper.wp P o a w K Q := by
  unfold Oper.wp
  rw [h]
  exact hK
section
variable {P : Program} {ops : Array Oper} {Q : Exit → Act → World → Prop} {md : Region.Mode} {S : World → Prop}
/-- An operation that comes up next and yields a value. -/
theorem allVal {fuel : Nat} {listed : Array Bool} {a : Act} {w w' : World} {i : Nat} {o : Oper} {rs : List Nat} {v : Value} (ho : ops[i]? = some o) (hw : Region.wanted o (yielded ops a.tmps) = true) (hr : (execOp a.eval o).run P w = .ok (.value v) w')
    (hS : S w') (h : wpAnyH P md ops Q S fuel (listed.setIfInBounds i true) (a.put o.dst v) w') (hs : AllReadyH P md ops Q S fuel listed a w rs) : AllReadyH P md ops Q S fuel listed a w (i :: rs) :=
  AllReadyH.cons ho (fun _ hK => wantedIte hw (opVal hr (hK.out _ _ hS (fun _ => h)))) hs
theorem allSkip {fuel : Nat} {listed : Array Bool} {a : Act} {w w' : World} {i : Nat} {o : Oper} {rs : List Nat} (ho : ops[i]? = some o) (hw : Region.wanted o (yielded ops a.tmps) = true) (hr : (execOp a.eval o).run P w = .ok .skip w')
    (hS : S w') (h : wpAnyH P md ops Q S fuel (listed.setIfInBounds i true) (a.put o.dst undef) w') (hs : AllReadyH P md ops Q S fuel listed a w rs) : AllReadyH P md ops Q S fuel listed a w (i :: rs) :=
  AllReadyH.cons ho (fun _ hK => wantedIte hw (opSkip hr (hK.out _ _ hS (fun _ => h)))) hs
end
theorem allCall {P : Program} {ops : Array Oper} {Q : Exit → Act → World → Prop} {md : Region.Mode} {S : World → Prop} {fuel : Nat} {listed : Array Bool} {a : Act} {w : World} {i : Nat} {o : Oper} {rs : List Nat} {f : FuncId} {args : Array Value}
    (ho : ops[i]? = some o) (hw : Region.wanted o (yielded ops a.tmps) = true) (hr : (execOp a.eval o).run P w = .ok (.enter f args) w)
    (hc : Calls P f args w (fun e w' => ∃ v, e = .returned v ∧ S w' ∧ wpAnyH P md ops Q S fuel (listed.setIfInBounds i true) (a.put o.dst v) w')) (hs : AllReadyH P md ops Q S fuel listed a w rs) : AllReadyH P md ops Q S fuel listed a w (i :: rs) :=
  AllReadyH.cons ho (fun _ hK => wantedIte hw (by
    unfold Oper.wp
    rw [hr]
    refine hc.mono ?_
    rintro e w' ⟨v, rfl, hS, h⟩
    exact hK.out _ _ hS (fun _ => h))) hs
end Go.Proofs.YtmconajkgjfplaaGreat
end

/- Rows of values in memory; which of two rows stands ahead. (Printed by rowa.py.) -/
section
set_option linter.unusedVariables false
set_option linter.unusedSimpArgs false
namespace Go.Proofs.YtmconajkgjfplaaGreat
open Go.RowKit Go.Sort
set_option linter.unusedVariables false
set_option linter.unusedSimpArgs false

/-- A world that came of another one by draws and new blocks alone. -/
def Gw (w w' : World) : Prop := ∃ (q : Nat) (os : Array Obj), w' = grow (w.drewN q) os
theorem Gw.refl (w : World) : Gw w w := ⟨0, #[], by rw [grow_empty]; rfl⟩
theorem Gw.trans {a b c : World} (h : Gw a b) (k : Gw b c) : Gw a c := by
  obtain ⟨q, os, rfl⟩ := h
  obtain ⟨q2, os2, rfl⟩ := k
  exact ⟨q + q2, os ++ os2, by
    show grow (grow ((a.drewN q).drewN q2) os) os2 = _
    rw [grow_grow]
    congr 1
    simp [World.drewN, Nat.add_assoc]⟩
theorem Gw.alloc {a b : World} (h : Gw a b) (o : Obj) : Gw a (b.alloc o) := h.trans ⟨0, #[o], by rw [← alloc_eq_grow]; rfl⟩
theorem Gw.drew {a b : World} (h : Gw a b) : Gw a b.drew := h.trans ⟨1, #[], by rw [grow_empty]; rfl⟩
theorem Gw.drewN {a b : World} (h : Gw a b) (n : Nat) : Gw a (b.drewN n) := h.trans ⟨n, #[], by rw [grow_empty]⟩
theorem Gw.below {w w' : World} (h : Gw w w') : Below w.heap.size w w' := by
  obtain ⟨q, os, rfl⟩ := h
  refine ⟨rfl, rfl, rfl, ?_, fun k hk => ?_⟩
  · show w.heap.size ≤ (w.heap ++ os).size
    rw [Array.size_append]; omega
  · show (w.heap ++ os)[k]? = w.heap[k]?
    rw [Array.getElem?_append_left hk]
theorem Gw.size {w w' : World} (h : Gw w w') : w.heap.size ≤ w'.heap.size := h.below.size
/-- A row: a slice of values. -/
abbrev Row1 := Sl (flat V.enc) 3
theorem Row1.loc : Loc (flat V.enc) := flat_loc _
def rowE : El (List V) := fun lo hi w cs x => ∃ sv, cs = [sv] ∧ Row1 lo hi w sv x
theorem rowE_loc : Loc rowE where
  agree h ha := by
    obtain ⟨sv, e, hs⟩ := h
    exact ⟨sv, e, hs.agree Row1.loc ha⟩
  mono h h1 h2 := by
    obtain ⟨sv, e, hs⟩ := h
    exact ⟨sv, e, hs.mono Row1.loc h1 h2⟩
abbrev Rws := Sl rowE 1
def cmpR : List V → List V → Int
  | [], [] => 0
  | [], _ :: _ => -1
  | _ :: _, [] => 1
  | a :: x, b :: y => if cmpV a b = 0 then cmpR x y else cmpV a b
theorem cmpR_drop {x y : List V} {k : Nat} (hx : k < x.length) (hy : k < y.length) : cmpR (x.drop k) (y.drop k) = if cmpV x[k] y[k] = 0 then cmpR (x.drop (k + 1)) (y.drop (k + 1)) else cmpV x[k] y[k] := by
  rw [List.drop_eq_getElem_cons hx, List.drop_eq_getElem_cons hy, cmpR]
theorem cmpR_end {x y : List V} {k : Nat} (h : k = x.length ∨ k = y.length) (hx : k ≤ x.length) (hy : k ≤ y.length) : cmpR (x.drop k) (y.drop k) = icmp x.length y.length := by
  unfold icmp
  rcases h with rfl | rfl
  · rw [List.drop_length]
    cases hd : y.drop x.length with
    | nil =>
      have := congrArg List.length hd
      rw [List.length_drop, List.length_nil] at this
      rw [cmpR, if_neg (by omega), if_neg (by omega)]
    | cons a r =>
      have := congrArg List.length hd
      rw [List.length_drop, List.length_cons] at this
      rw [cmpR, if_pos (by omega)]
  · rw [List.drop_length]
    cases hd : x.drop y.length with
    | nil =>
      have := congrArg List.length hd
      rw [List.length_drop, List.length_nil] at this
      rw [cmpR, if_neg (by omega), if_neg (by omega)]
    | cons a r =>
      have := congrArg List.length hd
      rw [List.length_drop, List.length_cons] at this
      rw [cmpR, if_neg (by omega), if_pos (by omega)]
set_option maxHeartbeats 1000000 in
set_option maxRecDepth 100000 in
theorem CompareG_any (a b : V) (w : World) (R : Ending → World → Prop) (hR : ∀ w', Gw w w' → R (.returned (.int .i64 (cmpV a b))) w') :
    Calls Tryz.prog 14 #[.agg #[.int .i64 a.kind, .int .i64 a.n, .string ⟨a.s.toArray⟩], .agg #[.int .i64 b.kind, .int .i64 b.n, .string ⟨b.s.toArray⟩]] w R := by
  go_enter Tryz.func14, Tryz.ntmps14
  go_wp2_with fail
  refine wp_region_still_tail 15 (by kernel_rfl) (by kernel_rfl) ?_
  change wpStill _ _ (World.drew _) (fun a' => wpList _ _ _ _ a' (World.drew _)) _ _
  simp only [List.take_succ_cons, List.take_zero, List.drop_succ_cons, List.drop_zero]
  repeat still_step
  still_call (cmp_int _ _ _ _ ⟨rfl, rfl⟩)
  repeat still_step
  still_call (cmp_int64 _ _ _ _ ⟨rfl, rfl⟩)
  repeat still_step
  still_call (strings_Compare _ _ _ _ ⟨rfl, rfl⟩)
  refine wpStill_nil ?_
  go_wp2_with fail
  refine Or3 _ _ _ _ _ ((CellsAt.newAt _ [.int .i64 (icmp a.kind b.kind), .int .i64 (icmp a.n b.n), .int .i64 (Lib.compareBytes a.s b.s)] _ (by simp)).drew) _ ?_
  have e : or3 (icmp a.kind b.kind) (icmp a.n b.n) (Lib.compareBytes a.s b.s) = cmpV a b := rfl
  rw [e]
  go_wp2_with fail
  exact (((Gw.refl _).alloc _).alloc _).alloc _ |>.drew
set_option maxRecDepth 100000 in
set_option maxHeartbeats 4000000 in
theorem refRowsCompare_any (lo hi lo2 hi2 : Nat) (x y : List V) (vx vy : Value) (w : World) (hx : Row1 lo hi w vx x) (hy : Row1 lo2 hi2 w vy y) (hhi : hi ≤ w.heap.size) (hhi2 : hi2 ≤ w.heap.size) (hsx : ∀ a ∈ x, a.s.length ≤ 9223372036854775807) (hsy : ∀ a ∈ y, a.s.length ≤ 9223372036854775807) (R : Ending → World → Prop)
    (hR : ∀ w', Below w.heap.size w w' → R (.returned (.int .i64 (cmpR x y))) w') : Calls Tryz.prog 47 #[vx, vy] w R := by
  have HR := Lib.hid hR
  have Hx := Lib.hid hx
  have Hy := Lib.hid hy
  obtain ⟨ax, cx, rfl, -, hxc, -, -⟩ := hx.form
  obtain ⟨ay, cy, rfl, -, hyc, -, -⟩ := hy.form
  have hxl := hx.len
  have hyl := hy.len
  have Hsx := Lib.hid hsx
  have Hsy := Lib.hid hsy
  clear hsx hsy
  clear hR hx hy
  go_enter Tryz.func47, Tryz.ntmps47
  go_wp2_with fail
  go_loopw [5] (fun t5 wr => ∃ k : Nat, k ≤ x.length ∧ k ≤ y.length ∧ t5 = .int .i64 k ∧ cmpR x y = cmpR (x.drop k) (y.drop k) ∧ Below w.heap.size w wr) (fun t5 _ => x.length - (intOf t5).toNat)
  case atStart => exact ⟨0, Nat.zero_le _, Nat.zero_le _, rfl, rfl, Below.refl _ _⟩
  case round =>
    obtain ⟨k, hkx, hky, rfl, heq, hB⟩ := hrel
    obtain ⟨wo, ewo⟩ : ∃ x, x = wr := ⟨_, rfl⟩
    subst ewo
    have Heq := Lib.hid heq
    have HB := Lib.hid hB
    have hz := hB.size
    have kk0 : (0 : Int) ≤ (k : Int) := by omega
    clear heq hB
    by_cases hlx : k < x.length
    · by_cases hly : k < y.length
      · obtain ⟨ao', cap', e', -, -, -, hc⟩ := (Sl.below Hx.out Row1.loc HB.out hhi).form
        injection e' with e1 e2 e3
        subst e1 e3
        obtain ⟨bx, ox, rfl, hb1, hb2, hcc⟩ := hc k hlx
        obtain ⟨cs, _, hcs, rfl⟩ := hcc k hlx
        have Hca := Lib.hid hcs
        clear hcs hcc hc
        obtain ⟨ao', cap', e', -, -, -, hc⟩ := (Sl.below Hy.out Row1.loc HB.out hhi2).form
        injection e' with e1 e2 e3
        subst e1 e3
        obtain ⟨by_, oy, rfl, hb3, hb4, hcc⟩ := hc k hly
        obtain ⟨cs, _, hcs, rfl⟩ := hcc k hly
        have Hcb := Lib.hid hcs
        have hbxw : bx < wo.heap.size := by omega
        have hbyw : by_ < wo.heap.size := by omega
        have klx : (k : Int) < (x.length : Int) := by omega
        have kly : (k : Int) < (y.length : Int) := by omega
        have Hst := Lib.hid (Heq.out.trans (cmpR_drop hlx hly))
        have Hma : Hid (x[k] ∈ x) := Lib.hid (List.getElem_mem hlx)
        have Hmb : Hid (y[k] ∈ y) := Lib.hid (List.getElem_mem hly)
        clear hcs hcc hc
        generalize x[k] = a at *
        generalize y[k] = b at *
        skip
        go_wp2_with fail
        go_upto_region 4 with fail
        have hS0 : Below wo.heap.size wo wo.drew := (Below.refl _ _).drew
        refine wp_region_held_drew (S := fun w' => Below wo.heap.size wo w') (by kernel_rfl) hS0 (fun hHeld => ?_)
        refine wpAnyH_take (i := 0) (v := .slice (some ⟨bx, ox, none⟩) x.length cx) rfl (by kernel_rfl) (by kernel_rfl) (by kernel_rfl) (fun _ _ _ h => h) (Or.inl ⟨by rfl, ?_⟩) hHeld ?_
        · intro w' hSw; go_simp
        try simp only [Act.put, List.getElem_toArray, List.getElem_cons_succ, List.getElem_cons_zero, List.setIfInBounds_toArray, List.set_cons_zero, List.set_cons_succ]
        refine wpAnyH_take (i := 1) (v := .int .i64 ((k : Int))) rfl (by kernel_rfl) (by kernel_rfl) (by kernel_rfl) (fun _ _ _ h => h) (Or.inl ⟨by rfl, ?_⟩) hHeld ?_
        · intro w' hSw; go_simp
        try simp only [Act.put, List.getElem_toArray, List.getElem_cons_succ, List.getElem_cons_zero, List.setIfInBounds_toArray, List.set_cons_zero, List.set_cons_succ]
        refine wpAnyH_take (i := 2) (v := .pointer (some ⟨bx, ox + k * 3, none⟩)) rfl (by kernel_rfl) (by kernel_rfl) (by kernel_rfl) (fun _ _ _ h => h) (Or.inl ⟨by rfl, ?_⟩) hHeld ?_
        · intro w' hSw; go_simp
        try simp only [Act.put, List.getElem_toArray, List.getElem_cons_succ, List.getElem_cons_zero, List.setIfInBounds_toArray, List.set_cons_zero, List.set_cons_succ]
        refine wpAnyH_take (i := 3) (v := .agg #[.int .i64 (a.kind), .int .i64 (a.n), .string ⟨a.s.toArray⟩]) rfl (by kernel_rfl) (by kernel_rfl) (by kernel_rfl) (fun _ _ _ h => h) (Or.inl ⟨by rfl, ?_⟩) hHeld ?_
        · intro w' hSw; obtain ⟨z0, z1, z2⟩ := (Hca.out.agree (.below hSw (Nat.le_refl _)) (Nat.zero_le _) hbxw).c3; go_simp
        try simp only [Act.put, List.getElem_toArray, List.getElem_cons_succ, List.getElem_cons_zero, List.setIfInBounds_toArray, List.set_cons_zero, List.set_cons_succ]
        refine wpAnyH_take (i := 4) (v := .slice (some ⟨by_, oy, none⟩) y.length cy) rfl (by kernel_rfl) (by kernel_rfl) (by kernel_rfl) (fun _ _ _ h => h) (Or.inl ⟨by rfl, ?_⟩) hHeld ?_
        · intro w' hSw; go_simp
        try simp only [Act.put, List.getElem_toArray, List.getElem_cons_succ, List.getElem_cons_zero, List.setIfInBounds_toArray, List.set_cons_zero, List.set_cons_succ]
        refine wpAnyH_take (i := 5) (v := .int .i64 ((k : Int))) rfl (by kernel_rfl) (by kernel_rfl) (by kernel_rfl) (fun _ _ _ h => h) (Or.inl ⟨by rfl, ?_⟩) hHeld ?_
        · intro w' hSw; go_simp
        try simp only [Act.put, List.getElem_toArray, List.getElem_cons_succ, List.getElem_cons_zero, List.setIfInBounds_toArray, List.set_cons_zero, List.set_cons_succ]
        refine wpAnyH_take (i := 6) (v := .pointer (some ⟨by_, oy + k * 3, none⟩)) rfl (by kernel_rfl) (by kernel_rfl) (by kernel_rfl) (fun _ _ _ h => h) (Or.inl ⟨by rfl, ?_⟩) hHeld ?_
        · intro w' hSw; go_simp
        try simp only [Act.put, List.getElem_toArray, List.getElem_cons_succ, List.getElem_cons_zero, List.setIfInBounds_toArray, List.set_cons_zero, List.set_cons_succ]
        refine wpAnyH_take (i := 7) (v := .agg #[.int .i64 (b.kind), .int .i64 (b.n), .string ⟨b.s.toArray⟩]) rfl (by kernel_rfl) (by kernel_rfl) (by kernel_rfl) (fun _ _ _ h => h) (Or.inl ⟨by rfl, ?_⟩) hHeld ?_
        · intro w' hSw; obtain ⟨z0, z1, z2⟩ := (Hcb.out.agree (.below hSw (Nat.le_refl _)) (Nat.zero_le _) hbyw).c3; go_simp
        try simp only [Act.put, List.getElem_toArray, List.getElem_cons_succ, List.getElem_cons_zero, List.setIfInBounds_toArray, List.set_cons_zero, List.set_cons_succ]
        refine wpAnyH_ready (rs := [8]) (by kernel_rfl) (by simp) ?_
        refine allCall (f := 79) (args := #[.agg #[.int .i64 a.kind, .int .i64 a.n, .string ⟨a.s.toArray⟩], .agg #[.int .i64 b.kind, .int .i64 b.n, .string ⟨b.s.toArray⟩]]) rfl (by kernel_rfl) (by kernel_rfl) ?_ AllReadyH.nil
        refine refCompare_any a b _ (Hsx.out _ Hma.out) (Hsy.out _ Hmb.out) _ (fun w5 hB5 => ?_)
        refine ⟨_, rfl, hS0.trans (hB5.mono (Nat.le_refl _)), ?_⟩
        have HB5 := Lib.hid (hS0.trans (hB5.mono (Nat.le_refl _)))
        clear hB5 hHeld
        have hHeld := HB5.out
        try simp only [Act.put, List.getElem_toArray, List.getElem_cons_succ, List.getElem_cons_zero, List.setIfInBounds_toArray, List.set_cons_zero, List.set_cons_succ]
        refine wpAnyH_take (i := 9) (v := .int .i64 ((cmpV a b))) rfl (by kernel_rfl) (by kernel_rfl) (by kernel_rfl) (fun _ _ _ h => h) (Or.inl ⟨by rfl, ?_⟩) hHeld ?_
        · intro w' hSw; go_simp
        try simp only [Act.put, List.getElem_toArray, List.getElem_cons_succ, List.getElem_cons_zero, List.setIfInBounds_toArray, List.set_cons_zero, List.set_cons_succ]
        refine wpAnyH_done (by kernel_rfl) ?_ _
        clear hHeld
        by_cases h0 : cmpV a b = 0
        · have Hn := Hst.out
          rw [if_pos h0] at Hn
          have Hn := Lib.hid Hn
          have g0 : (cmpV a b != 0) = false := by simp [h0]
          generalize cmpV a b = cv at *
          clear h0
          go_wp2_with fail
          go_roundw
          case rel => exact ⟨k + 1, by omega, by omega, by go_num, Hn.out, HB.out.trans (HB5.out.mono hz)⟩
          case measure => simp [intOf]; omega
        · have hr := HR.out w5 (HB.out.trans (HB5.out.mono hz))
          have Hn := Hst.out
          rw [if_neg h0] at Hn
          rw [Hn] at hr
          clear Hn
          have g0 : (cmpV a b != 0) = true := by simp [h0]
          generalize cmpV a b = cv at *
          go_wp2_with fail
          first | exact hr | exact fin hr rfl
      · obtain rfl : k = y.length := by omega
        have hr := HR.out wo HB.out
        rw [Heq.out, cmpR_end (.inr rfl) hkx (Nat.le_refl _)] at hr
        have c1 : (y.length : Int) < (x.length : Int) := by omega
        have c2 : ¬ (x.length : Int) < (y.length : Int) := by omega
        rw [icmp_gt c1] at hr
        go_wp2_with fail
        first | exact hr | exact fin hr rfl
    · obtain rfl : k = x.length := by omega
      have hr := HR.out wo HB.out
      rw [Heq.out, cmpR_end (.inl rfl) (Nat.le_refl _) hky] at hr
      have kx : ¬ ((x.length : Nat) : Int) < (x.length : Int) := by omega
      by_cases hxy : x.length < y.length
      · rw [icmp_lt (show (x.length : Int) < (y.length : Int) by omega)] at hr
        have c1 : (x.length : Int) < (y.length : Int) := by omega
        go_wp2_with fail
        first | exact hr | exact fin hr rfl
      · rw [show icmp (x.length : Int) (y.length : Int) = 0 by unfold icmp; rw [if_neg (by omega), if_neg (by omega)]] at hr
        have c1 : ¬ (x.length : Int) < (y.length : Int) := by omega
        have c2 : ¬ (y.length : Int) < (x.length : Int) := by omega
        go_wp2_with fail
        first | exact hr | exact fin hr rfl
def rowsCmpSays (lt : Bool) : Prop := ∀ (lo hi lo2 hi2 : Nat) (x y : List V) (vx vy : Value) (w : World) (hx : Row1 lo hi w vx x) (hy : Row1 lo2 hi2 w vy y) (hhi : hi ≤ w.heap.size) (hhi2 : hi2 ≤ w.heap.size) (hlt : decide (y.length < x.length) = lt) (R : Ending → World → Prop)
    (hR : ∀ w', Gw w w' → R (.returned (.int .i64 (cmpR x y))) w'), Calls Tryz.prog 9 #[vx, vy] w R
set_option maxRecDepth 100000 in
set_option maxHeartbeats 4000000 in
theorem rowsCompare_true : rowsCmpSays true := by
  intro lo hi lo2 hi2 x y vx vy w hx hy hhi hhi2 hlt R hR
  have hlt := of_decide_eq_true hlt
  have hci : ((y.length : Int) < (x.length : Int)) := by omega
  have HR := Lib.hid hR
  have Hx := Lib.hid hx
  have Hy := Lib.hid hy
  obtain ⟨ax, cx, rfl, -, hxc, -, -⟩ := hx.form
  obtain ⟨ay, cy, rfl, -, hyc, -, -⟩ := hy.form
  have hxl := hx.len
  have hyl := hy.len
  skip
  clear hR hx hy
  go_enter Tryz.func9, Tryz.ntmps9
  go_wp2_with fail
  go_loopw [12] (fun t12 wr => ∃ k : Nat, k ≤ x.length ∧ k ≤ y.length ∧ t12 = .int .i64 k ∧ cmpR x y = cmpR (x.drop k) (y.drop k) ∧ Gw w wr) (fun t12 _ => x.length - (intOf t12).toNat)
  case atStart => exact ⟨0, Nat.zero_le _, Nat.zero_le _, rfl, rfl, Gw.refl _⟩
  case round =>
    obtain ⟨k, hkx, hky, rfl, heq, hB⟩ := hrel
    obtain ⟨wo, ewo⟩ : ∃ x, x = wr := ⟨_, rfl⟩
    subst ewo
    have Heq := Lib.hid heq
    have HB := Lib.hid hB
    have hz := hB.size
    have kk0 : (0 : Int) ≤ (k : Int) := by omega
    clear heq hB
    by_cases hlx : k < x.length
    · by_cases hly : k < y.length
      · obtain ⟨ao', cap', e', -, -, -, hc⟩ := (Sl.below Hx.out Row1.loc HB.out.below hhi).form
        injection e' with e1 e2 e3
        subst e1 e3
        obtain ⟨bx, ox, rfl, hb1, hb2, hcc⟩ := hc k hlx
        obtain ⟨cs, _, hcs, rfl⟩ := hcc k hlx
        have Hca := Lib.hid hcs
        clear hcs hcc hc
        obtain ⟨ao', cap', e', -, -, -, hc⟩ := (Sl.below Hy.out Row1.loc HB.out.below hhi2).form
        injection e' with e1 e2 e3
        subst e1 e3
        obtain ⟨by_, oy, rfl, hb3, hb4, hcc⟩ := hc k hly
        obtain ⟨cs, _, hcs, rfl⟩ := hcc k hly
        have Hcb := Lib.hid hcs
        have hbxw : bx < wo.heap.size := by omega
        have hbyw : by_ < wo.heap.size := by omega
        have klx : (k : Int) < (x.length : Int) := by omega
        have kly : (k : Int) < (y.length : Int) := by omega
        have Hst := Lib.hid (Heq.out.trans (cmpR_drop hlx hly))
        skip
        clear hcs hcc hc
        generalize x[k] = a at *
        generalize y[k] = b at *
        skip
        go_wp2_with fail
        go_upto_region 4 with fail
        have hS0 : Gw wo wo.drew := (Gw.refl _).drew
        refine wp_region_held_drew (S := fun w' => Gw wo w') (by kernel_rfl) hS0 (fun hHeld => ?_)
        refine wpAnyH_take (i := 0) (v := .slice (some ⟨bx, ox, none⟩) x.length cx) rfl (by kernel_rfl) (by kernel_rfl) (by kernel_rfl) (fun _ _ _ h => h) (Or.inl ⟨by rfl, ?_⟩) hHeld ?_
        · intro w' hSw; go_simp
        try simp only [Act.put, List.getElem_toArray, List.getElem_cons_succ, List.getElem_cons_zero, List.setIfInBounds_toArray, List.set_cons_zero, List.set_cons_succ]
        refine wpAnyH_take (i := 1) (v := .int .i64 ((k : Int))) rfl (by kernel_rfl) (by kernel_rfl) (by kernel_rfl) (fun _ _ _ h => h) (Or.inl ⟨by rfl, ?_⟩) hHeld ?_
        · intro w' hSw; go_simp
        try simp only [Act.put, List.getElem_toArray, List.getElem_cons_succ, List.getElem_cons_zero, List.setIfInBounds_toArray, List.set_cons_zero, List.set_cons_succ]
        refine wpAnyH_take (i := 2) (v := .pointer (some ⟨bx, ox + k * 3, none⟩)) rfl (by kernel_rfl) (by kernel_rfl) (by kernel_rfl) (fun _ _ _ h => h) (Or.inl ⟨by rfl, ?_⟩) hHeld ?_
        · intro w' hSw; go_simp
        try simp only [Act.put, List.getElem_toArray, List.getElem_cons_succ, List.getElem_cons_zero, List.setIfInBounds_toArray, List.set_cons_zero, List.set_cons_succ]
        refine wpAnyH_take (i := 3) (v := .agg #[.int .i64 (a.kind), .int .i64 (a.n), .string ⟨a.s.toArray⟩]) rfl (by kernel_rfl) (by kernel_rfl) (by kernel_rfl) (fun _ _ _ h => h) (Or.inl ⟨by rfl, ?_⟩) hHeld ?_
        · intro w' hSw; obtain ⟨z0, z1, z2⟩ := (Hca.out.agree (.below hSw.below (Nat.le_refl _)) (Nat.zero_le _) hbxw).c3; go_simp
        try simp only [Act.put, List.getElem_toArray, List.getElem_cons_succ, List.getElem_cons_zero, List.setIfInBounds_toArray, List.set_cons_zero, List.set_cons_succ]
        refine wpAnyH_take (i := 4) (v := .slice (some ⟨by_, oy, none⟩) y.length cy) rfl (by kernel_rfl) (by kernel_rfl) (by kernel_rfl) (fun _ _ _ h => h) (Or.inl ⟨by rfl, ?_⟩) hHeld ?_
        · intro w' hSw; go_simp
        try simp only [Act.put, List.getElem_toArray, List.getElem_cons_succ, List.getElem_cons_zero, List.setIfInBounds_toArray, List.set_cons_zero, List.set_cons_succ]
        refine wpAnyH_take (i := 5) (v := .int .i64 ((k : Int))) rfl (by kernel_rfl) (by kernel_rfl) (by kernel_rfl) (fun _ _ _ h => h) (Or.inl ⟨by rfl, ?_⟩) hHeld ?_
        · intro w' hSw; go_simp
        try simp only [Act.put, List.getElem_toArray, List.getElem_cons_succ, List.getElem_cons_zero, List.setIfInBounds_toArray, List.set_cons_zero, List.set_cons_succ]
        refine wpAnyH_take (i := 6) (v := .pointer (some ⟨by_, oy + k * 3, none⟩)) rfl (by kernel_rfl) (by kernel_rfl) (by kernel_rfl) (fun _ _ _ h => h) (Or.inl ⟨by rfl, ?_⟩) hHeld ?_
        · intro w' hSw; go_simp
        try simp only [Act.put, List.getElem_toArray, List.getElem_cons_succ, List.getElem_cons_zero, List.setIfInBounds_toArray, List.set_cons_zero, List.set_cons_succ]
        refine wpAnyH_take (i := 7) (v := .agg #[.int .i64 (b.kind), .int .i64 (b.n), .string ⟨b.s.toArray⟩]) rfl (by kernel_rfl) (by kernel_rfl) (by kernel_rfl) (fun _ _ _ h => h) (Or.inl ⟨by rfl, ?_⟩) hHeld ?_
        · intro w' hSw; obtain ⟨z0, z1, z2⟩ := (Hcb.out.agree (.below hSw.below (Nat.le_refl _)) (Nat.zero_le _) hbyw).c3; go_simp
        try simp only [Act.put, List.getElem_toArray, List.getElem_cons_succ, List.getElem_cons_zero, List.setIfInBounds_toArray, List.set_cons_zero, List.set_cons_succ]
        refine wpAnyH_ready (rs := [8]) (by kernel_rfl) (by simp) ?_
        refine allCall (f := 14) (args := #[.agg #[.int .i64 a.kind, .int .i64 a.n, .string ⟨a.s.toArray⟩], .agg #[.int .i64 b.kind, .int .i64 b.n, .string ⟨b.s.toArray⟩]]) rfl (by kernel_rfl) (by kernel_rfl) ?_ AllReadyH.nil
        refine CompareG_any a b _ _ (fun w5 hB5 => ?_)
        refine ⟨_, rfl, hS0.trans hB5, ?_⟩
        have HB5 := Lib.hid (hS0.trans hB5)
        clear hB5 hHeld
        have hHeld := HB5.out
        try simp only [Act.put, List.getElem_toArray, List.getElem_cons_succ, List.getElem_cons_zero, List.setIfInBounds_toArray, List.set_cons_zero, List.set_cons_succ]
        refine wpAnyH_take (i := 9) (v := .int .i64 ((cmpV a b))) rfl (by kernel_rfl) (by kernel_rfl) (by kernel_rfl) (fun _ _ _ h => h) (Or.inl ⟨by rfl, ?_⟩) hHeld ?_
        · intro w' hSw; go_simp
        try simp only [Act.put, List.getElem_toArray, List.getElem_cons_succ, List.getElem_cons_zero, List.setIfInBounds_toArray, List.set_cons_zero, List.set_cons_succ]
        refine wpAnyH_done (by kernel_rfl) ?_ _
        clear hHeld
        by_cases h0 : cmpV a b = 0
        · have Hn := Hst.out
          rw [if_pos h0] at Hn
          have Hn := Lib.hid Hn
          have g0 : (cmpV a b != 0) = false := by simp [h0]
          generalize cmpV a b = cv at *
          clear h0
          go_wp2_with fail
          go_roundw
          case rel => exact ⟨k + 1, by omega, by omega, by go_num, Hn.out, HB.out.trans HB5.out⟩
          case measure => simp [intOf]; omega
        · have hr := HR.out w5 (HB.out.trans HB5.out)
          have Hn := Hst.out
          rw [if_neg h0] at Hn
          rw [Hn] at hr
          clear Hn
          have g0 : (cmpV a b != 0) = true := by simp [h0]
          generalize cmpV a b = cv at *
          go_wp2_with fail
          first | exact hr | exact fin hr rfl
      · obtain rfl : k = y.length := by omega
        have hr := HR.out wo HB.out
        rw [Heq.out, cmpR_end (.inr rfl) hkx (Nat.le_refl _)] at hr
        have klx : ¬ ((y.length : Nat) : Int) < (y.length : Int) := by omega
        go_wp2_with fail
        refine cmp_int _ _ _ _ ?_
        go_wp2_with fail
        first | exact hr | exact fin hr rfl
    · exact absurd hkx (by omega)
set_option maxRecDepth 100000 in
set_option maxHeartbeats 4000000 in
theorem rowsCompare_false : rowsCmpSays false := by
  intro lo hi lo2 hi2 x y vx vy w hx hy hhi hhi2 hlt R hR
  have hlt := of_decide_eq_false hlt
  have hci : ¬ ((y.length : Int) < (x.length : Int)) := by omega
  have HR := Lib.hid hR
  have Hx := Lib.hid hx
  have Hy := Lib.hid hy
  obtain ⟨ax, cx, rfl, -, hxc, -, -⟩ := hx.form
  obtain ⟨ay, cy, rfl, -, hyc, -, -⟩ := hy.form
  have hxl := hx.len
  have hyl := hy.len
  skip
  clear hR hx hy
  go_enter Tryz.func9, Tryz.ntmps9
  go_wp2_with fail
  go_loopw [12] (fun t12 wr => ∃ k : Nat, k ≤ x.length ∧ k ≤ y.length ∧ t12 = .int .i64 k ∧ cmpR x y = cmpR (x.drop k) (y.drop k) ∧ Gw w wr) (fun t12 _ => x.length - (intOf t12).toNat)
  case atStart => exact ⟨0, Nat.zero_le _, Nat.zero_le _, rfl, rfl, Gw.refl _⟩
  case round =>
    obtain ⟨k, hkx, hky, rfl, heq, hB⟩ := hrel
    obtain ⟨wo, ewo⟩ : ∃ x, x = wr := ⟨_, rfl⟩
    subst ewo
    have Heq := Lib.hid heq
    have HB := Lib.hid hB
    have hz := hB.size
    have kk0 : (0 : Int) ≤ (k : Int) := by omega
    clear heq hB
    by_cases hlx : k < x.length
    · by_cases hly : k < y.length
      · obtain ⟨ao', cap', e', -, -, -, hc⟩ := (Sl.below Hx.out Row1.loc HB.out.below hhi).form
        injection e' with e1 e2 e3
        subst e1 e3
        obtain ⟨bx, ox, rfl, hb1, hb2, hcc⟩ := hc k hlx
        obtain ⟨cs, _, hcs, rfl⟩ := hcc k hlx
        have Hca := Lib.hid hcs
        clear hcs hcc hc
        obtain ⟨ao', cap', e', -, -, -, hc⟩ := (Sl.below Hy.out Row1.loc HB.out.below hhi2).form
        injection e' with e1 e2 e3
        subst e1 e3
        obtain ⟨by_, oy, rfl, hb3, hb4, hcc⟩ := hc k hly
        obtain ⟨cs, _, hcs, rfl⟩ := hcc k hly
        have Hcb := Lib.hid hcs
        have hbxw : bx < wo.heap.size := by omega
        have hbyw : by_ < wo.heap.size := by omega
        have klx : (k : Int) < (x.length : Int) := by omega
        have kly : (k : Int) < (y.length : Int) := by omega
        have Hst := Lib.hid (Heq.out.trans (cmpR_drop hlx hly))
        skip
        clear hcs hcc hc
        generalize x[k] = a at *
        generalize y[k] = b at *
        skip
        go_wp2_with fail
        go_upto_region 4 with fail
        have hS0 : Gw wo wo.drew := (Gw.refl _).drew
        refine wp_region_held_drew (S := fun w' => Gw wo w') (by kernel_rfl) hS0 (fun hHeld => ?_)
        refine wpAnyH_take (i := 0) (v := .slice (some ⟨bx, ox, none⟩) x.length cx) rfl (by kernel_rfl) (by kernel_rfl) (by kernel_rfl) (fun _ _ _ h => h) (Or.inl ⟨by rfl, ?_⟩) hHeld ?_
        · intro w' hSw; go_simp
        try simp only [Act.put, List.getElem_toArray, List.getElem_cons_succ, List.getElem_cons_zero, List.setIfInBounds_toArray, List.set_cons_zero, List.set_cons_succ]
        refine wpAnyH_take (i := 1) (v := .int .i64 ((k : Int))) rfl (by kernel_rfl) (by kernel_rfl) (by kernel_rfl) (fun _ _ _ h => h) (Or.inl ⟨by rfl, ?_⟩) hHeld ?_
        · intro w' hSw; go_simp
        try simp only [Act.put, List.getElem_toArray, List.getElem_cons_succ, List.getElem_cons_zero, List.setIfInBounds_toArray, List.set_cons_zero, List.set_cons_succ]
        refine wpAnyH_take (i := 2) (v := .pointer (some ⟨bx, ox + k * 3, none⟩)) rfl (by kernel_rfl) (by kernel_rfl) (by kernel_rfl) (fun _ _ _ h => h) (Or.inl ⟨by rfl, ?_⟩) hHeld ?_
        · intro w' hSw; go_simp
        try simp only [Act.put, List.getElem_toArray, List.getElem_cons_succ, List.getElem_cons_zero, List.setIfInBounds_toArray, List.set_cons_zero, List.set_cons_succ]
        refine wpAnyH_take (i := 3) (v := .agg #[.int .i64 (a.kind), .int .i64 (a.n), .string ⟨a.s.toArray⟩]) rfl (by kernel_rfl) (by kernel_rfl) (by kernel_rfl) (fun _ _ _ h => h) (Or.inl ⟨by rfl, ?_⟩) hHeld ?_
        · intro w' hSw; obtain ⟨z0, z1, z2⟩ := (Hca.out.agree (.below hSw.below (Nat.le_refl _)) (Nat.zero_le _) hbxw).c3; go_simp
        try simp only [Act.put, List.getElem_toArray, List.getElem_cons_succ, List.getElem_cons_zero, List.setIfInBounds_toArray, List.set_cons_zero, List.set_cons_succ]
        refine wpAnyH_take (i := 4) (v := .slice (some ⟨by_, oy, none⟩) y.length cy) rfl (by kernel_rfl) (by kernel_rfl) (by kernel_rfl) (fun _ _ _ h => h) (Or.inl ⟨by rfl, ?_⟩) hHeld ?_
        · intro w' hSw; go_simp
        try simp only [Act.put, List.getElem_toArray, List.getElem_cons_succ, List.getElem_cons_zero, List.setIfInBounds_toArray, List.set_cons_zero, List.set_cons_succ]
        refine wpAnyH_take (i := 5) (v := .int .i64 ((k : Int))) rfl (by kernel_rfl) (by kernel_rfl) (by kernel_rfl) (fun _ _ _ h => h) (Or.inl ⟨by rfl, ?_⟩) hHeld ?_
        · intro w' hSw; go_simp
        try simp only [Act.put, List.getElem_toArray, List.getElem_cons_succ, List.getElem_cons_zero, List.setIfInBounds_toArray, List.set_cons_zero, List.set_cons_succ]
        refine wpAnyH_take (i := 6) (v := .pointer (some ⟨by_, oy + k * 3, none⟩)) rfl (by kernel_rfl) (by kernel_rfl) (by kernel_rfl) (fun _ _ _ h => h) (Or.inl ⟨by rfl, ?_⟩) hHeld ?_
        · intro w' hSw; go_simp
        try simp only [Act.put, List.getElem_toArray, List.getElem_cons_succ, List.getElem_cons_zero, List.setIfInBounds_toArray, List.set_cons_zero, List.set_cons_succ]
        refine wpAnyH_take (i := 7) (v := .agg #[.int .i64 (b.kind), .int .i64 (b.n), .string ⟨b.s.toArray⟩]) rfl (by kernel_rfl) (by kernel_rfl) (by kernel_rfl) (fun _ _ _ h => h) (Or.inl ⟨by rfl, ?_⟩) hHeld ?_
        · intro w' hSw; obtain ⟨z0, z1, z2⟩ := (Hcb.out.agree (.below hSw.below (Nat.le_refl _)) (Nat.zero_le _) hbyw).c3; go_simp
        try simp only [Act.put, List.getElem_toArray, List.getElem_cons_succ, List.getElem_cons_zero, List.setIfInBounds_toArray, List.set_cons_zero, List.set_cons_succ]
        refine wpAnyH_ready (rs := [8]) (by kernel_rfl) (by simp) ?_
        refine allCall (f := 14) (args := #[.agg #[.int .i64 a.kind, .int .i64 a.n, .string ⟨a.s.toArray⟩], .agg #[.int .i64 b.kind, .int .i64 b.n, .string ⟨b.s.toArray⟩]]) rfl (by kernel_rfl) (by kernel_rfl) ?_ AllReadyH.nil
        refine CompareG_any a b _ _ (fun w5 hB5 => ?_)
        refine ⟨_, rfl, hS0.trans hB5, ?_⟩
        have HB5 := Lib.hid (hS0.trans hB5)
        clear hB5 hHeld
        have hHeld := HB5.out
        try simp only [Act.put, List.getElem_toArray, List.getElem_cons_succ, List.getElem_cons_zero, List.setIfInBounds_toArray, List.set_cons_zero, List.set_cons_succ]
        refine wpAnyH_take (i := 9) (v := .int .i64 ((cmpV a b))) rfl (by kernel_rfl) (by kernel_rfl) (by kernel_rfl) (fun _ _ _ h => h) (Or.inl ⟨by rfl, ?_⟩) hHeld ?_
        · intro w' hSw; go_simp
        try simp only [Act.put, List.getElem_toArray, List.getElem_cons_succ, List.getElem_cons_zero, List.setIfInBounds_toArray, List.set_cons_zero, List.set_cons_succ]
        refine wpAnyH_done (by kernel_rfl) ?_ _
        clear hHeld
        by_cases h0 : cmpV a b = 0
        · have Hn := Hst.out
          rw [if_pos h0] at Hn
          have Hn := Lib.hid Hn
          have g0 : (cmpV a b != 0) = false := by simp [h0]
          generalize cmpV a b = cv at *
          clear h0
          go_wp2_with fail
          go_roundw
          case rel => exact ⟨k + 1, by omega, by omega, by go_num, Hn.out, HB.out.trans HB5.out⟩
          case measure => simp [intOf]; omega
        · have hr := HR.out w5 (HB.out.trans HB5.out)
          have Hn := Hst.out
          rw [if_neg h0] at Hn
          rw [Hn] at hr
          clear Hn
          have g0 : (cmpV a b != 0) = true := by simp [h0]
          generalize cmpV a b = cv at *
          go_wp2_with fail
          first | exact hr | exact fin hr rfl
      · exact absurd hky (by omega)
    · obtain rfl : k = x.length := by omega
      have hr := HR.out wo HB.out
      rw [Heq.out, cmpR_end (.inl rfl) (Nat.le_refl _) hky] at hr
      have klx : ¬ ((x.length : Nat) : Int) < (x.length : Int) := by omega
      go_wp2_with fail
      refine cmp_int _ _ _ _ ?_
      go_wp2_with fail
      first | exact hr | exact fin hr rfl
theorem rowsCompare_any (lo hi lo2 hi2 : Nat) (x y : List V) (vx vy : Value) (w : World) (hx : Row1 lo hi w vx x) (hy : Row1 lo2 hi2 w vy y) (hhi : hi ≤ w.heap.size) (hhi2 : hi2 ≤ w.heap.size) (R : Ending → World → Prop)
    (hR : ∀ w', Gw w w' → R (.returned (.int .i64 (cmpR x y))) w') : Calls Tryz.prog 9 #[vx, vy] w R := by
  cases h : decide (y.length < x.length)
  · exact rowsCompare_false lo hi lo2 hi2 x y vx vy w hx hy hhi hhi2 h R hR
  · exact rowsCompare_true lo hi lo2 hi2 x y vx vy w hx hy hhi hhi2 h R hR
end Go.Proofs.YtmconajkgjfplaaGreat
end

/- Pieces of slices: 's[:n]' and 's[n:]'. -/
section
set_option linter.unusedVariables false
set_option linter.unusedSimpArgs false
namespace Go.Proofs.YtmconajkgjfplaaGreat
open Go.RowKit
section
variable {P : Program} {α : Type} {E : El α} {size lo hi : Nat} {w : World} {a : Option Addr} {cap : Nat} {xs : List α}
theorem Sl.upTo (h : Sl E size lo hi w (.slice a xs.length cap) xs) (t : TypeId) (ht : P.underlying t = some (.slice (P.elem t))) (hsz : ∀ w, (sizeOf (P.elem t)).run P w = .ok size w) (n : Nat) (hn : n ≤ xs.length) :
    ∃ v1, (∀ w', (Instr.slice t (.slice a xs.length cap) none (some (.int .i64 (n : Int))) none).run P w' = .ok v1 w') ∧ Sl E size lo hi w v1 (xs.take n) := by
  obtain ⟨ao, c, e, h1, h2, h3, h4⟩ := h
  injection e with e1 _ e3
  subst e1 e3
  have hl : (xs.take n).length = n := by rw [List.length_take]; omega
  refine ⟨.slice a n cap, fun w' => ?_, a, cap, by rw [hl], by omega, h2, h3, fun hne => ?_⟩
  · rw [run_slice_h w' t a xs.length cap ht .i64 (n : Int) (by omega) (by omega)]
    have ha : a.map (fun x => x.add 0) = a := by
      cases a with
      | none => rfl
      | some x => obtain ⟨b, o, p⟩ := x; simp [Addr.add]
    simp only [hsz, Result.andThen, sliced, Nat.zero_mul, Nat.sub_zero, Int.toNat_natCast]
    split
    · rfl
    · rw [ha]
  · have hx : xs ≠ [] := fun e => hne (by rw [e]; simp)
    obtain ⟨b, off, e, k1, k2, k3⟩ := h4 hx
    refine ⟨b, off, e, k1, k2, fun k hk => ?_⟩
    rw [hl] at hk
    obtain ⟨cs, c1, c2, c3⟩ := k3 k (by omega)
    exact ⟨cs, c1, c2, by simpa using c3⟩
end
end Go.Proofs.YtmconajkgjfplaaGreat
end

/- Columns: where one stands; each there once; places; a row's values at places. (Printed by rowb.py.) -/
section
set_option linter.unusedVariables false
set_option linter.unusedSimpArgs false
namespace Go.Proofs.YtmconajkgjfplaaGreat
open Go.RowKit
set_option linter.unusedVariables false
set_option linter.unusedSimpArgs false

abbrev S := List UInt8
def strE (s : S) : List Value := [.string ⟨s.toArray⟩]
/-- Columns: a slice of strings. -/
abbrev Strs := Sl (flat strE) 1
theorem Strs.loc : Loc (flat strE) := flat_loc _
def placeI (l : List S) (c : S) : Int := match l.findIdx? (· == c) with
  | some i => i
  | none => -1
theorem placeI_hit {l : List S} {c : S} {k : Nat} (hk : k < l.length) (hp : l[k] = c) (hno : ∀ i, i < k → l.getD i [] ≠ c) : placeI l c = k := by
  unfold placeI
  have : l.findIdx? (· == c) = some k := by
    rw [List.findIdx?_eq_some_iff_getElem]
    exact ⟨hk, by simp [hp], fun j hj => by
      have := hno j hj
      rw [List.getD_eq_getElem?_getD, List.getElem?_eq_getElem (by omega)] at this
      simpa using this⟩
  rw [this]
theorem placeI_no {l : List S} {c : S} (hno : ∀ i, i < l.length → l.getD i [] ≠ c) : placeI l c = -1 := by
  unfold placeI
  have : l.findIdx? (· == c) = none := by
    rw [List.findIdx?_eq_none_iff]
    intro x hx
    obtain ⟨i, hi, rfl⟩ := List.getElem_of_mem hx
    have := hno i hi
    rw [List.getD_eq_getElem?_getD, List.getElem?_eq_getElem hi] at this
    simpa using this
  rw [this]
theorem placeI_lt (l : List S) (c : S) : -1 ≤ placeI l c ∧ placeI l c < l.length := by
  unfold placeI
  cases h : l.findIdx? (· == c) with
  | none => simp only; omega
  | some i =>
    obtain ⟨hi, -⟩ := List.findIdx?_eq_some_iff_getElem.1 h
    simp only
    omega
theorem getDS {α : Type} (l : List α) (d : α) (i : Nat) (h : i < l.length) : l.getD i d = l[i] := by simp [List.getD, h]
set_option maxRecDepth 100000 in
set_option maxHeartbeats 2000000 in
theorem Index_any (lo hi : Nat) (l : List S) (c : S) (v : Value) (w : World) (hv : Strs lo hi w v l) (R : Ending → World → Prop) (hR : R (.returned (.int .i64 (placeI l c))) w) :
    Calls Tryz.prog 48 #[v, .string ⟨c.toArray⟩] w R := by
  have HR := Lib.hid hR
  obtain ⟨ao, cap, rfl, -, hcm, -, hc⟩ := hv.form
  have Hc := Lib.hid hc
  have hlen := hv.len
  clear hR hv hc
  go_enter Tryz.func48, Tryz.ntmps48
  go_wp2_with fail
  go_loop [8] (fun t8 => ∃ k : Nat, k ≤ l.length ∧ t8 = .int .i64 k ∧ ∀ i, i < k → l.getD i [] ≠ c) (fun t8 => l.length - (intOf t8).toNat)
  case atStart => exact ⟨0, Nat.zero_le _, rfl, fun i h => absurd h (Nat.not_lt_zero _)⟩
  case round =>
    obtain ⟨k, hk, rfl, hno⟩ := hrel
    have Hno := Lib.hid hno
    clear hno
    have kk0 : (0 : Int) ≤ (k : Int) := by omega
    by_cases hlt : k < l.length
    · obtain ⟨b, off, rfl, hb1, hb2, hcc⟩ := Hc.out k hlt
      obtain ⟨cs, _, hcs, rfl⟩ := hcc k hlt
      have g0 := hcs.c1
      rw [Nat.mul_one] at g0
      have kkl : (k : Int) < (l.length : Int) := by omega
      have Hx : Hid (l.getD k [] = l[k]) := Lib.hid (getDS l _ k hlt)
      have Hhit : Hid (l[k] = c → placeI l c = k) := Lib.hid (fun h => placeI_hit hlt h Hno.out)
      clear hcs hcc
      generalize l[k] = y at *
      by_cases he : y = c
      · have hr := HR.out
        rw [Hhit.out he] at hr
        subst he
        go_wp2_with fail
        first | exact hr | exact fin hr rfl
      · have he2 : (y == c) = false := by simpa using he
        have he3 : (c == y) = false := by simp; exact fun h => he h.symm
        have Hne := Lib.hid he
        clear he
        go_wp2_with fail
        go_round
        case rel => exact ⟨k + 1, by omega, by go_num, fun i hi => by
          by_cases e : i = k
          · subst e; rw [Hx.out]; exact Hne.out
          · exact Hno.out i (by omega)⟩
        case measure => simp [intOf]; omega
    · obtain rfl : k = l.length := by omega
      have hr := HR.out
      rw [placeI_no Hno.out] at hr
      go_wp2_with fail
      first | exact hr | exact fin hr rfl
set_option maxRecDepth 100000 in
set_option maxHeartbeats 2000000 in
theorem Contains_any (lo hi : Nat) (l : List S) (c : S) (v : Value) (w : World) (hv : Strs lo hi w v l) (R : Ending → World → Prop) (hR : R (.returned (.bool (decide (0 ≤ placeI l c)))) w) :
    Calls Tryz.prog 57 #[v, .string ⟨c.toArray⟩] w R := by
  have HR := Lib.hid hR
  have Hv := Lib.hid hv
  obtain ⟨ao, cap, rfl, -, -, -, -⟩ := hv.form
  clear hR hv
  go_enter Tryz.func57, Tryz.ntmps57
  go_wp2_with fail
  refine Index_any lo hi l c _ w Hv.out _ ?_
  have hr := HR.out
  go_wp2_with fail
  first | exact hr | exact fin hr rfl
/-- Are columns few enough, each there once? -/
def onceAt (l : List S) (i : Nat) : Bool := decide (i < 32) && placeI l (l.getD i []) == i
def onceB (l : List S) : Bool := (List.range l.length).all (onceAt l)
theorem onceB_yes {l : List S} (h : ∀ i, i < l.length → onceAt l i = true) : onceB l = true := by
  unfold onceB
  rw [List.all_eq_true]
  exact fun i hi => h i (List.mem_range.1 hi)
theorem onceB_no {l : List S} {i : Nat} (hi : i < l.length) (h : onceAt l i = false) : onceB l = false := by
  unfold onceB
  rw [List.all_eq_false]
  exact ⟨i, List.mem_range.2 hi, by simp [h]⟩
theorem place_take {l : List S} {i : Nat} (hi : i < l.length) : (0 ≤ placeI (l.take i) l[i]) ↔ placeI l l[i] ≠ i := by
  by_cases h : ∃ j, j < i ∧ l.getD j [] = l[i]
  · obtain ⟨j, hj, he⟩ := h
    have hjl : j < l.length := by omega
    constructor
    · intro _ hp
      unfold placeI at hp
      cases hf : l.findIdx? (· == l[i]) with
      | none => rw [hf] at hp; simp only at hp; omega
      | some m =>
        rw [hf] at hp
        simp only at hp
        obtain ⟨hm, -, hno⟩ := List.findIdx?_eq_some_iff_getElem.1 hf
        have := hno j (by omega)
        rw [getDS l _ j hjl] at he
        simp [he] at this
    · intro _
      unfold placeI
      cases hf : (l.take i).findIdx? (· == l[i]) with
      | none =>
        rw [List.findIdx?_eq_none_iff] at hf
        have hjt : j < (l.take i).length := by rw [List.length_take]; omega
        have := hf (l.take i)[j] (List.getElem_mem hjt)
        rw [List.getElem_take, ← getDS l [] j hjl, he] at this
        simp at this
      | some m => simp only; omega
  · have hno : ∀ j, j < i → l.getD j [] ≠ l[i] := fun j hj e => h ⟨j, hj, e⟩
    rw [placeI_hit hi rfl hno]
    rw [placeI_no (l := l.take i) (fun j hj => by
      rw [List.length_take] at hj
      have : (l.take i).getD j [] = l.getD j [] := by
        rw [getDS _ _ j (by rw [List.length_take]; omega), getDS l _ j (by omega), List.getElem_take]
      rw [this]
      exact hno j (by omega))]
    omega
theorem size_Str : ∀ w, (sizeOf (Tryz.prog.elem 22)).run Tryz.prog w = .ok 1 w := fun w => by kernel_rfl
set_option maxRecDepth 100000 in
set_option maxHeartbeats 2000000 in
theorem once_any (lo hi : Nat) (l : List S) (v : Value) (w : World) (hv : Strs lo hi w v l) (R : Ending → World → Prop) (hR : R (.returned (.bool (onceB l))) w) :
    Calls Tryz.prog 26 #[v] w R := by
  have HR := Lib.hid hR
  have Hv := Lib.hid hv
  obtain ⟨ao, cap, rfl, -, hcm, -, hc⟩ := hv.form
  have Hc := Lib.hid hc
  have hlen := hv.len
  clear hR hv hc
  go_enter Tryz.func26, Tryz.ntmps26
  go_wp2_with fail
  go_loop [7] (fun t7 => ∃ k : Nat, k ≤ l.length ∧ t7 = .int .i64 k ∧ ∀ i, i < k → onceAt l i = true) (fun t7 => l.length - (intOf t7).toNat)
  case atStart => exact ⟨0, Nat.zero_le _, rfl, fun i h => absurd h (Nat.not_lt_zero _)⟩
  case round =>
    obtain ⟨k, hk, rfl, hno⟩ := hrel
    have Hno := Lib.hid hno
    clear hno
    have kk0 : (0 : Int) ≤ (k : Int) := by omega
    by_cases hlt : k < l.length
    · obtain ⟨b, off, rfl, hb1, hb2, hcc⟩ := Hc.out k hlt
      obtain ⟨cs, _, hcs, rfl⟩ := hcc k hlt
      have g0 := hcs.c1
      rw [Nat.mul_one] at g0
      have kkl : (k : Int) < (l.length : Int) := by omega
      have Hx : Hid (l.getD k [] = l[k]) := Lib.hid (getDS l _ k hlt)
      have Hpt := Lib.hid (place_take hlt)
      obtain ⟨v1, hrun, hvt⟩ := Sl.upTo Hv.out 22 Tryz.underlying22 size_Str k (by omega)
      have hlk : (l.take k).length = k := by rw [List.length_take]; omega
      have Hvt := Lib.hid hvt
      obtain ⟨at1, c1, rfl, hc1, hc2, -, -⟩ := hvt.form
      rw [hlk] at hrun hc1 Hvt
      clear hcs hcc hvt hlk
      generalize l[k] = y at *
      by_cases h32 : k < 32
      · have c32 : ¬ (32 : Int) ≤ (k : Int) := by omega
        go_wp2_with fail
        refine Contains_any lo hi (l.take k) y _ w Hvt.out _ ?_
        cases hd : decide (0 ≤ placeI (l.take k) y)
        · have Hat : Hid (onceAt l k = true) := Lib.hid (by
            unfold onceAt
            rw [Hx.out, decide_eq_true h32]
            have h := of_decide_eq_false hd
            rw [Hpt.out] at h
            simpa using h)
          clear hd
          go_wp2_with fail
          go_round
          case rel => exact ⟨k + 1, by omega, by go_num, fun i hi => by
            by_cases e : i = k
            · subst e; exact Hat.out
            · exact Hno.out i (by omega)⟩
          case measure => simp [intOf]; omega
        · have hr := HR.out
          rw [onceB_no hlt (by
            unfold onceAt
            rw [Hx.out]
            have h := of_decide_eq_true hd
            rw [Hpt.out] at h
            simp [h])] at hr
          clear hd
          go_wp2_with fail
          first | exact hr | exact fin hr rfl
      · have c32 : (32 : Int) ≤ (k : Int) := by omega
        have hr := HR.out
        rw [onceB_no hlt (by unfold onceAt; rw [decide_eq_false h32]; rfl)] at hr
        go_wp2_with fail
        first | exact hr | exact fin hr rfl
    · obtain rfl : k = l.length := by omega
      have hr := HR.out
      rw [onceB_yes Hno.out] at hr
      go_wp2_with fail
      first | exact hr | exact fin hr rfl
end Go.Proofs.YtmconajkgjfplaaGreat
end

/- Copies of rows and columns; rows of their own; what gathers rows. (Printed by rowc.py.) -/
section
set_option linter.unusedVariables false
set_option linter.unusedSimpArgs false
namespace Go.Proofs.YtmconajkgjfplaaGreat
open Go.RowKit
set_option linter.unusedVariables false
set_option linter.unusedSimpArgs false
attribute [local go_sem ↓] Go.wp_at_zero Go.wp_at_succ

def vE (v : Value) : List Value := [v]
abbrev OwnV := Own V.enc 44 3
abbrev OwnT := Own strE 9 1
abbrev OwnH := Own vE 36 1
theorem infoV : (Tryz.prog.info? 44).map (fun i => (i.zero, i.size, i.bytes)) = some (some (.agg #[.int .i64 0, .int .i64 0, .string ⟨#[]⟩]), 3, 32) := by kernel_rfl
theorem infoT : (Tryz.prog.info? 9).map (fun i => (i.zero, i.size, i.bytes)) = some (some (.string ⟨#[]⟩), 1, 16) := by kernel_rfl
theorem infoH : (Tryz.prog.info? 36).map (fun i => (i.zero, i.size, i.bytes)) = some (some (.slice none 0 0), 1, 24) := by kernel_rfl
theorem OwnV.sl {lo : Nat} {w : World} {v : Value} {xs : List V} (h : OwnV lo w v xs) : Row1 lo w.heap.size w v xs := Sl.ofOwn (fun _ => rfl) h
theorem OwnT.sl {lo : Nat} {w : World} {v : Value} {xs : List S} (h : OwnT lo w v xs) : Strs lo w.heap.size w v xs := Sl.ofOwn (fun _ => rfl) h
theorem OwnH.sl {lo : Nat} {w : World} {v : Value} {xs : List Value} (h : OwnH lo w v xs) : Sl (flat vE) 1 lo w.heap.size w v xs := Sl.ofOwn (fun _ => rfl) h
theorem Own.slice {α : Type} {enc : α → List Value} {e : TypeId} {size lo : Nat} {w : World} {v : Value} {xs : List α} (h : Own enc e size lo w v xs) : ∃ p cap, v = .slice p xs.length cap := by
  rcases h.2 with ⟨rfl, hn⟩ | ⟨g, cap, cur, rfl, -⟩
  · exact ⟨none, 0, by rw [hn]⟩
  · exact ⟨_, _, rfl⟩
theorem Own.same {α : Type} {enc : α → List Value} {e : TypeId} {size lo : Nat} {w w' : World} {v : Value} {xs : List α} (h : Own enc e size lo w v xs) (hg : ∀ g, v.ownBlock = some g → w'.heap[g]? = w.heap[g]?) : Own enc e size lo w' v xs := by
  refine ⟨h.1, ?_⟩
  rcases h.2 with h2 | ⟨g, cap, cur, rfl, hb, hgg, r⟩
  · exact .inl h2
  · exact .inr ⟨g, cap, cur, rfl, hb, (hg g rfl).trans hgg, r⟩
theorem Own.lower {α : Type} {enc : α → List Value} {e : TypeId} {size lo lo' : Nat} {w : World} {v : Value} {xs : List α} (h : Own enc e size lo w v xs) (hl : lo' ≤ lo) : Own enc e size lo' w v xs := by
  refine ⟨h.1, ?_⟩
  rcases h.2 with h2 | ⟨g, cap, cur, rfl, hb, r⟩
  · exact .inl h2
  · exact .inr ⟨g, cap, cur, rfl, Nat.le_trans hl hb, r⟩
theorem one3 : ∀ x : V, ∀ u ∈ V.enc x, u.oneCell' = true := fun x u hu => by
  simp only [V.enc, List.mem_cons, List.not_mem_nil, or_false] at hu
  rcases hu with rfl | rfl | rfl <;> rfl
theorem oneS : ∀ x : S, ∀ u ∈ strE x, u.oneCell' = true := fun x u hu => by
  simp only [strE, List.mem_cons, List.not_mem_nil, or_false] at hu
  subst hu; rfl
/-- Values behind a row's own. -/
theorem appVL {w : World} {lo lo2 hi2 : Nat} {v x : Value} {xs ys : List V} (h : OwnV lo w v xs) (hx : Row1 lo2 hi2 w x ys) (hb : xs.length + ys.length ≤ 4000000000000) (hlo : lo ≤ w.heap.size) :
    ∃ v' w', (Builtin.append_ #[36, 36] 36 #[v, x]).run Tryz.prog w = .ok v' w' ∧ OwnV lo w' v' (xs ++ ys) ∧ Appended w v w' v' := by
  obtain ⟨i0, hi, hz0, hz1, hz2⟩ := info_parts infoV
  exact Own.app h _ _ _ i0 _ 32 Tryz.underlying36 hi hz0 hz1 hz2 rfl (Src.ofSl hx (fun _ => rfl) one3 Tryz.underlying36) (by omega) (by omega) hlo
/-- One value behind a row's own. -/
theorem appV1 {w : World} {lo : Nat} {v : Value} {xs : List V} (h : OwnV lo w v xs) (x : V) {n : Nat} (hn : n = w.heap.size) (hb : xs.length ≤ 4000000000000) (hlo : lo ≤ w.heap.size) :
    ∃ v' w', (Builtin.append_ #[36, 36] 36 #[v, .slice (some ⟨n, 0, none⟩) 1 1]).run Tryz.prog (w.alloc (.cells #[.int .i64 x.kind, .int .i64 x.n, .string ⟨x.s.toArray⟩] 44)) = .ok v' w' ∧ OwnV lo w' v' (xs ++ [x]) ∧ Appended w v w' v' := by
  subst hn
  have hB : Below w.heap.size w (w.alloc (.cells (V.enc x).toArray 44)) := (Below.refl _ _).alloc (Nat.le_refl _) _
  obtain ⟨i0, hi, hz0, hz1, hz2⟩ := info_parts infoV
  have hc := CellsAt.newAt w (V.enc x) 44 rfl
  have hs : Src Tryz.prog 3 36 (.slice (some ⟨w.heap.size, 0, none⟩) 1 1) [x].length ([x].flatMap V.enc) (w.alloc (.cells (V.enc x).toArray 44)) :=
    Src.ofSlice _ Tryz.underlying36 _ _ _ _ (by simp [V.enc]) (fun j u hu => by rw [Addr.add_lit]; exact hc j u (by simpa using hu)) (fun u hu => by
      rw [List.flatMap_cons, List.flatMap_nil, List.append_nil] at hu
      exact one3 x u hu)
  obtain ⟨v', w', hr, ho, ha⟩ := (Own.kept h hB).app _ _ _ i0 _ 32 Tryz.underlying36 hi hz0 hz1 hz2 rfl hs (by simp only [List.length_cons, List.length_nil]; omega) (by omega) (Nat.le_trans hlo hB.size)
  exact ⟨v', w', hr, ho, (Appended.step v hB).trans ha⟩
theorem appTL {w : World} {lo lo2 hi2 : Nat} {v x : Value} {xs ys : List S} (h : OwnT lo w v xs) (hx : Strs lo2 hi2 w x ys) (hb : xs.length + ys.length ≤ 8000000000000) (hlo : lo ≤ w.heap.size) :
    ∃ v' w', (Builtin.append_ #[22, 22] 22 #[v, x]).run Tryz.prog w = .ok v' w' ∧ OwnT lo w' v' (xs ++ ys) ∧ Appended w v w' v' := by
  obtain ⟨i0, hi, hz0, hz1, hz2⟩ := info_parts infoT
  exact Own.app h _ _ _ i0 _ 16 Tryz.underlying22 hi hz0 hz1 hz2 rfl (Src.ofSl hx (fun _ => rfl) oneS Tryz.underlying22) (by omega) (by omega) hlo
/-- One header behind rows' own. -/
theorem appH1 {w : World} {lo : Nat} {v : Value} {hs : List Value} (h : OwnH lo w v hs) (a : Option Addr) (m c : Nat) {n : Nat} (hn : n = w.heap.size) (hb : hs.length ≤ 5000000000000) (hlo : lo ≤ w.heap.size) :
    ∃ v' w', (Builtin.append_ #[23, 23] 23 #[v, .slice (some ⟨n, 0, none⟩) 1 1]).run Tryz.prog (w.alloc (.cells #[.slice a m c] 36)) = .ok v' w' ∧ OwnH lo w' v' (hs ++ [.slice a m c]) ∧ Appended w v w' v' := by
  subst hn
  have hB : Below w.heap.size w (w.alloc (.cells (vE (.slice a m c)).toArray 36)) := (Below.refl _ _).alloc (Nat.le_refl _) _
  obtain ⟨i0, hi, hz0, hz1, hz2⟩ := info_parts infoH
  have hc := CellsAt.newAt w (vE (.slice a m c)) 36 rfl
  have hsr : Src Tryz.prog 1 23 (.slice (some ⟨w.heap.size, 0, none⟩) 1 1) [Value.slice a m c].length ([Value.slice a m c].flatMap vE) (w.alloc (.cells (vE (.slice a m c)).toArray 36)) :=
    Src.ofSlice _ Tryz.underlying23 _ _ _ _ (by simp [vE]) (fun j u hu => by rw [Addr.add_lit]; exact hc j u (by simpa using hu)) (fun u hu => by
      simp only [List.flatMap_cons, List.flatMap_nil, List.append_nil, vE, List.mem_cons, List.not_mem_nil, or_false] at hu
      subst hu
      rfl)
  obtain ⟨v', w', hr, ho, ha⟩ := (Own.kept h hB).app _ _ _ i0 _ 24 Tryz.underlying23 hi hz0 hz1 hz2 rfl hsr (by simp only [List.length_cons, List.length_nil]; omega) (by omega) (Nat.le_trans hlo hB.size)
  exact ⟨v', w', hr, ho, (Appended.step v hB).trans ha⟩
set_option maxRecDepth 100000 in
set_option maxHeartbeats 2000000 in
theorem CloneRow_any (klo khi : Nat) (l : List V) (v : Value) (w : World) (hk : Row1 klo khi w v l) (hkhi : khi ≤ w.heap.size) (hlen : l.length ≤ 4000000000000)
    (R : Ending → World → Prop) (hR : ∀ w' v', Below w.heap.size w w' → OwnV w.heap.size w' v' l → R (.returned v') w') : Calls Tryz.prog 64 #[v] w R := by
  rcases hk.cases with ⟨rfl, ao, cap, rfl, -, hn⟩ | ⟨hp, b, off, cap, rfl, hle, hle2, hb1, hb2, hc⟩
  · cases ao with
    | none =>
      cases hn rfl
      have hq := fun w => Lib.run_eql_slice_nil (P := Tryz.prog) w 36 44 none 0 0 0 0 Tryz.underlying36
      go_enter Tryz.func64, Tryz.ntmps64
      go_wp2_with (at_builtin; refine AtApp.of ?_)
      first | exact hR _ _ (Below.refl _ _) (Own.nil _ _ _ _ _) | exact fin (hR _ _ (Below.refl _ _) (Own.nil _ _ _ _ _)) rfl
    | some a =>
      have hq := fun w => Lib.run_eql_slice_nil (P := Tryz.prog) w 36 44 (some a) 0 cap 0 0 Tryz.underlying36
      have Hk := Lib.hid hk
      clear hk
      go_enter Tryz.func64, Tryz.ntmps64
      go_wp2_with (at_builtin; refine AtApp.of ?_)
      have hB1 : Below w.heap.size w (w.alloc (.cells #[] 44)) := (Below.refl _ _).alloc (Nat.le_refl _) _
      obtain ⟨v2, w2, hr, ho2, ha2⟩ := appVL (lo := w.heap.size) (ys := []) (Own.made V.enc 44 3 w.heap.size w rfl (Nat.le_refl _)) (Hk.out.below (flat_loc _) hB1 hkhi) (by simp) (by simp)
      refine AtApp.go hr rfl rfl rfl rfl ?_
      have hB2 : Below w.heap.size w w2 := hB1.trans (ha2.below hB1.size (fun k e => by simp [Value.ownBlock] at e; omega))
      clear hr ha2
      go_wp2
      exact fin (hR _ _ hB2 ho2) rfl
  · have Hk := Lib.hid hk
    clear hk hc
    have hq := fun w => Lib.run_eql_slice_nil (P := Tryz.prog) w 36 44 (some ⟨b, off, none⟩) l.length cap 0 0 Tryz.underlying36
    go_enter Tryz.func64, Tryz.ntmps64
    go_wp2_with (at_builtin; refine AtApp.of ?_)
    have hB1 : Below w.heap.size w (w.alloc (.cells #[] 44)) := (Below.refl _ _).alloc (Nat.le_refl _) _
    obtain ⟨v2, w2, hr, ho2, ha2⟩ := appVL (lo := w.heap.size) (ys := l) (Own.made V.enc 44 3 w.heap.size w rfl (Nat.le_refl _)) (Hk.out.below (flat_loc _) hB1 hkhi) (by simp; omega) (by simp)
    refine AtApp.go hr rfl rfl rfl rfl ?_
    have hB2 : Below w.heap.size w w2 := hB1.trans (ha2.below hB1.size (fun k e => by simp [Value.ownBlock] at e; omega))
    clear hr ha2
    go_wp2
    exact fin (hR _ _ hB2 ho2) rfl
set_option maxRecDepth 100000 in
set_option maxHeartbeats 2000000 in
theorem CloneStr_any (klo khi : Nat) (l : List S) (v : Value) (w : World) (hk : Strs klo khi w v l) (hkhi : khi ≤ w.heap.size) (hlen : l.length ≤ 8000000000000)
    (R : Ending → World → Prop) (hR : ∀ w' v', Below w.heap.size w w' → OwnT w.heap.size w' v' l → R (.returned v') w') : Calls Tryz.prog 61 #[v] w R := by
  rcases hk.cases with ⟨rfl, ao, cap, rfl, -, hn⟩ | ⟨hp, b, off, cap, rfl, hle, hle2, hb1, hb2, hc⟩
  · cases ao with
    | none =>
      cases hn rfl
      have hq := fun w => Lib.run_eql_slice_nil (P := Tryz.prog) w 22 9 none 0 0 0 0 Tryz.underlying22
      go_enter Tryz.func61, Tryz.ntmps61
      go_wp2_with (at_builtin; refine AtApp.of ?_)
      first | exact hR _ _ (Below.refl _ _) (Own.nil _ _ _ _ _) | exact fin (hR _ _ (Below.refl _ _) (Own.nil _ _ _ _ _)) rfl
    | some a =>
      have hq := fun w => Lib.run_eql_slice_nil (P := Tryz.prog) w 22 9 (some a) 0 cap 0 0 Tryz.underlying22
      have Hk := Lib.hid hk
      clear hk
      go_enter Tryz.func61, Tryz.ntmps61
      go_wp2_with (at_builtin; refine AtApp.of ?_)
      have hB1 : Below w.heap.size w (w.alloc (.cells #[] 9)) := (Below.refl _ _).alloc (Nat.le_refl _) _
      obtain ⟨v2, w2, hr, ho2, ha2⟩ := appTL (lo := w.heap.size) (ys := []) (Own.made strE 9 1 w.heap.size w rfl (Nat.le_refl _)) (Hk.out.below (flat_loc _) hB1 hkhi) (by simp) (by simp)
      refine AtApp.go hr rfl rfl rfl rfl ?_
      have hB2 : Below w.heap.size w w2 := hB1.trans (ha2.below hB1.size (fun k e => by simp [Value.ownBlock] at e; omega))
      clear hr ha2
      go_wp2
      exact fin (hR _ _ hB2 ho2) rfl
  · have Hk := Lib.hid hk
    clear hk hc
    have hq := fun w => Lib.run_eql_slice_nil (P := Tryz.prog) w 22 9 (some ⟨b, off, none⟩) l.length cap 0 0 Tryz.underlying22
    go_enter Tryz.func61, Tryz.ntmps61
    go_wp2_with (at_builtin; refine AtApp.of ?_)
    have hB1 : Below w.heap.size w (w.alloc (.cells #[] 9)) := (Below.refl _ _).alloc (Nat.le_refl _) _
    obtain ⟨v2, w2, hr, ho2, ha2⟩ := appTL (lo := w.heap.size) (ys := l) (Own.made strE 9 1 w.heap.size w rfl (Nat.le_refl _)) (Hk.out.below (flat_loc _) hB1 hkhi) (by simp; omega) (by simp)
    refine AtApp.go hr rfl rfl rfl rfl ?_
    have hB2 : Below w.heap.size w w2 := hB1.trans (ha2.below hB1.size (fun k e => by simp [Value.ownBlock] at e; omega))
    clear hr ha2
    go_wp2
    exact fin (hR _ _ hB2 ho2) rfl
/-- Rows of their own: headers in a block of their own, each row's values in one of its own, all of them at lo or behind it. -/
structure OwnR (lo : Nat) (w : World) (v : Value) (hs : List Value) (xs : List (List V)) : Prop where
  own : OwnH lo w v hs
  len : hs.length = xs.length
  row : ∀ i (h : i < hs.length) (h2 : i < xs.length), OwnV lo w hs[i] xs[i]
  apart : ∀ i (h : i < hs.length) k, hs[i].ownBlock = some k → v.ownBlock ≠ some k
theorem OwnR.nil (lo : Nat) (w : World) : OwnR lo w (.slice none 0 0) [] [] := ⟨Own.nil _ _ _ _ _, rfl, (fun i h => absurd h (Nat.not_lt_zero _)), (fun i h => absurd h (Nat.not_lt_zero _))⟩
theorem OwnR.kept {lo : Nat} {w w' : World} {v : Value} {hs : List Value} {xs : List (List V)} (h : OwnR lo w v hs xs) (hB : Below w.heap.size w w') : OwnR lo w' v hs xs :=
  ⟨Own.kept h.own hB, h.len, fun i hi h2 => Own.kept (h.row i hi h2) hB, h.apart⟩
theorem OwnR.lower {lo lo' : Nat} {w : World} {v : Value} {hs : List Value} {xs : List (List V)} (h : OwnR lo w v hs xs) (hl : lo' ≤ lo) : OwnR lo' w v hs xs :=
  ⟨Own.lower h.own hl, h.len, fun i hi h2 => Own.lower (h.row i hi h2) hl, h.apart⟩
theorem OwnR.rws {lo : Nat} {w : World} {v : Value} {hs : List Value} {xs : List (List V)} (h : OwnR lo w v hs xs) : Rws lo w.heap.size w v xs := by
  obtain ⟨ao, cap, hv, hle, hcm, hn, hc⟩ := (OwnH.sl h.own).form
  refine ⟨ao, cap, by rw [hv, h.len], by rw [← h.len]; exact hle, by simpa [maxLen] using hcm, hn, fun hne => ?_⟩
  have h0 : 0 < hs.length := by
    rw [h.len]
    cases xs with
    | nil => exact absurd rfl hne
    | cons a r => simp
  obtain ⟨b, off, rfl, hb1, hb2, hcc⟩ := hc 0 h0
  refine ⟨b, off, rfl, hb1, hb2, fun k hk => ?_⟩
  have hk' : k < hs.length := by rw [h.len]; exact hk
  obtain ⟨cs, hl, hcs, rfl⟩ := hcc k hk'
  exact ⟨_, hl, hcs, hs[k], rfl, OwnV.sl (h.row k hk' hk)⟩
/-- A row more. -/
theorem OwnR.snoc {lo : Nat} {w w1 : World} {v v1 hv : Value} {hs : List Value} {xs : List (List V)} {x : List V} (h : OwnR lo w v hs xs) (hx : OwnV lo w hv x) (ha : ∀ k, hv.ownBlock = some k → v.ownBlock ≠ some k)
    (ho : OwnH lo w1 v1 (hs ++ [hv])) (hap : Appended w v w1 v1) : OwnR lo w1 v1 (hs ++ [hv]) (xs ++ [x]) := by
  have keep : ∀ {u : Value} {y : List V}, OwnV lo w u y → (∀ k, u.ownBlock = some k → v.ownBlock ≠ some k) → OwnV lo w1 u y ∧ ∀ k, u.ownBlock = some k → v1.ownBlock ≠ some k := by
    intro u y hu hne
    refine ⟨Own.same hu (fun g hg => ?_), fun k hk => ?_⟩
    · exact hap.grown.block g (Own.lt hu g hg).2 (fun e => hne g hg e.symm)
    · exact hap.apart (Own.lt hu k hk).2 (hne k hk)
  refine ⟨ho, by simp [h.len], fun i hi h2 => ?_, fun i hi k hk => ?_⟩
  · by_cases e : i < hs.length
    · have e2 : i < xs.length := by rw [← h.len]; exact e
      rw [List.getElem_append_left e, List.getElem_append_left e2]
      exact (keep (h.row i e e2) (fun k hk => h.apart i e k hk)).1
    · have e1 : i = hs.length := by rw [List.length_append, List.length_singleton] at hi; omega
      subst e1
      have e2 : hs.length = xs.length := h.len
      rw [List.getElem_append_right (Nat.le_refl _), List.getElem_append_right (by omega)]
      simp only [Nat.sub_self, e2, List.getElem_cons_zero]
      exact (keep hx ha).1
  · by_cases e : i < hs.length
    · rw [List.getElem_append_left e] at hk
      have e2 : i < xs.length := by rw [← h.len]; exact e
      exact (keep (h.row i e e2) (fun k hk => h.apart i e k hk)).2 k hk
    · have e1 : i = hs.length := by rw [List.length_append, List.length_singleton] at hi; omega
      subst e1
      rw [List.getElem_append_right (Nat.le_refl _)] at hk
      simp only [Nat.sub_self, List.getElem_cons_zero] at hk
      exact (keep hx ha).2 k hk
theorem filterMap_take {α β : Type} (f : α → Option β) (l : List α) (k : Nat) (h : k < l.length) : (l.take (k + 1)).filterMap f = (l.take k).filterMap f ++ (f l[k]).toList := by
  rw [List.take_succ_eq_append_getElem h, List.filterMap_append]
  cases hf : f l[k] <;> simp [hf]
set_option maxRecDepth 100000 in
set_option maxHeartbeats 4000000 in
/-- What gathers rows: of each row what something makes of it, as far as it says so. -/
theorem gather_any (lo hi : Nat) (l : List (List V)) (v : Value) (g : FuncId) (capt : Array Value) (f : List V → Option (List V)) (w : World) (hv : Rws lo hi w v l) (hhi : hi ≤ w.heap.size) (hlen : l.length ≤ 5000000000000)
    (he : ∀ args w, (callFunc g args).run Tryz.prog w = .ok (.enter g args) w)
    (hq : ∀ k (hk : k < l.length) xv w' R, Below w.heap.size w w' → Row1 lo hi w' xv l[k] → (∀ w'' yv, Below w'.heap.size w' w'' → ((f l[k]).isSome = true → OwnV w'.heap.size w'' yv ((f l[k]).getD [])) → (∃ a m c, yv = .slice a m c) → R (.returned (.tuple #[yv, .bool (f l[k]).isSome])) w'') →
      Calls Tryz.prog g (#[xv] ++ capt) w' R)
    (R : Ending → World → Prop) (hR : ∀ w' v' hs, Below w.heap.size w w' → OwnR w.heap.size w' v' hs (l.filterMap f) → R (.returned v') w') : Calls Tryz.prog 28 #[v, .func (.func g) #[] capt] w R := by
  have HR := Lib.hid hR
  have Hv := Lib.hid hv
  have Hq := Lib.hid hq
  obtain ⟨av, cv, rfl, hcl, hcm, -, -⟩ := hv.form
  have hl63 := hv.len
  clear hR hv hq
  go_enter Tryz.func28, Tryz.ntmps28
  go_wp2_with fail
  go_loopw [5, 12] (fun t5 t12 wr => ∃ (k : Nat) (hs : List Value), k ≤ l.length ∧ t12 = .int .i64 k ∧ OwnR w.heap.size wr t5 hs ((l.take k).filterMap f) ∧ Below w.heap.size w wr) (fun _ t12 _ => l.length - (intOf t12).toNat)
  case atStart => exact ⟨0, [], Nat.zero_le _, rfl, OwnR.nil _ _, Below.refl _ _⟩
  case round =>
    obtain ⟨k, hs, hk, rfl, ho, hB⟩ := hrel
    obtain ⟨wo, ewo⟩ : ∃ x, x = wr := ⟨_, rfl⟩
    subst ewo
    have Ho := Lib.hid ho
    have HB := Lib.hid hB
    have hz := hB.size
    have kk0 : (0 : Int) ≤ (k : Int) := by omega
    obtain ⟨po, co, hpo⟩ := Own.slice ho.own
    clear ho hB
    by_cases hlt : k < l.length
    · obtain ⟨ao', cap', e', -, -, -, hc⟩ := (Sl.below Hv.out rowE_loc HB.out hhi).form
      injection e' with e1 e2 e3
      subst e1 e3
      obtain ⟨b, off, rfl, hb1, hb2, hcc⟩ := hc k hlt
      obtain ⟨cs, _, hcs, sv, rfl, hsv⟩ := hcc k hlt
      have g0 := hcs.c1
      rw [Nat.mul_one] at g0
      have kkl : (k : Int) < (l.length : Int) := by omega
      have Hsv := Lib.hid hsv
      have Hst := Lib.hid (filterMap_take f l k hlt)
      have hsl : hs.length ≤ k := by
        rw [Ho.out.len]
        exact Nat.le_trans (List.length_filterMap_le _ _) (by rw [List.length_take]; omega)
      have hslv := hsv
      obtain ⟨ax, cx, rfl, -, -, -, -⟩ := hslv.form
      clear hcc hcs hc hsv hslv
      have Hq1 := Lib.hid (Hq.out k hlt)
      generalize l[k] = x at *
      subst hpo
      go_wp2_with fail
      refine Hq1.out _ wo _ HB.out Hsv.out (fun w2 yv hB2 hy hys => ?_)
      have HB2 := Lib.hid (HB.out.trans (hB2.mono hz))
      have Ho2 := Lib.hid (Ho.out.kept hB2)
      have hz2 := hB2.size
      obtain ⟨ya, ym, yc, rfl⟩ := hys
      cases hf : f x with
      | none =>
        have Hn : Hid ((l.take (k + 1)).filterMap f = (l.take k).filterMap f) := Lib.hid (by rw [Hst.out, hf]; simp)
        simp only [hf, Option.isSome_none]
        clear hy hf hB2
        go_wp2_with fail
        go_roundw
        case rel => exact ⟨k + 1, hs, by omega, by go_num, by rw [Hn.out]; exact Ho2.out, HB2.out⟩
        case measure => simp [intOf]; omega
      | some y =>
        have Hn : Hid ((l.take (k + 1)).filterMap f = (l.take k).filterMap f ++ [y]) := Lib.hid (by rw [Hst.out, hf]; simp)
        have hoy : OwnV wo.heap.size w2 (.slice ya ym yc) y := by
          have := hy (by rw [hf]; rfl)
          rwa [hf] at this
        simp only [hf, Option.isSome_some]
        have hya : ∀ q, (Value.slice ya ym yc).ownBlock = some q → (Value.slice po hs.length co).ownBlock ≠ some q := fun q hq2 e => by
          have h1 := (Own.lt hoy q hq2).1
          have h2 := (Own.lt Ho.out.own q e).2
          omega
        obtain ⟨v3, w3, hr3, ho3, ha3⟩ := appH1 Ho2.out.own ya ym yc rfl (by omega) (by omega)
        have HO3 := Lib.hid (Ho2.out.snoc (Own.lower hoy hz) hya ho3 ha3)
        have HB3 := Lib.hid (HB2.out.trans (ha3.below (B := w.heap.size) (by omega) (fun q e => (Own.lt Ho.out.own q e).1)))
        clear hy hf hB2 hoy ho3 ha3 hya
        go_wp2_with (at_builtin; refine AtApp.of ?_)
        refine AtApp.go hr3 rfl rfl rfl rfl ?_
        go_wp2_with fail
        go_roundw
        case rel => exact ⟨k + 1, _, by omega, by go_num, by rw [Hn.out]; exact HO3.out, HB3.out⟩
        case measure => simp [intOf]; omega
    · obtain rfl : k = l.length := by omega
      have hO := Ho.out
      rw [List.take_length] at hO
      have hr := HR.out wo _ hs HB.out hO
      clear hO
      subst hpo
      go_wp2_with fail
      first | exact hr | exact fin hr rfl
set_option maxRecDepth 100000 in
set_option maxHeartbeats 2000000 in
theorem own_any (klo khi : Nat) (l : List V) (v : Value) (w : World) (hk : Row1 klo khi w v l) (hkhi : khi ≤ w.heap.size) (hlen : l.length ≤ 4000000000000)
    (R : Ending → World → Prop) (hR : ∀ w' v', Below w.heap.size w w' → OwnV w.heap.size w' v' l → R (.returned (.tuple #[v', .bool true])) w') : Calls Tryz.prog 34 #[v] w R := by
  have HR := Lib.hid hR
  have Hk := Lib.hid hk
  obtain ⟨av, cv, rfl, -, -, -, -⟩ := hk.form
  clear hR hk
  go_enter Tryz.func34, Tryz.ntmps34
  go_wp2_with fail
  refine CloneRow_any klo khi l _ w Hk.out hkhi hlen _ (fun w1 v1 hB1 ho1 => ?_)
  have hr := HR.out w1 v1 hB1 ho1
  obtain ⟨p1, c1, rfl⟩ := Own.slice ho1
  clear hB1 ho1
  go_wp2_with fail
  first | exact hr | exact fin hr rfl
end Go.Proofs.YtmconajkgjfplaaGreat
end

/- Columns and rows of an argument, opened. -/
section
set_option linter.unusedVariables false
set_option linter.unusedSimpArgs false
namespace Go.Proofs.YtmconajkgjfplaaGreat
open Go.ChangeShapes Go.WideShapes Go.ChangeAt Go.RowKit
def colOk (s : S) : Prop := s.length ≤ 9223372036854775807
set_option maxRecDepth 100000 in
theorem el_col {H : Type} {enc : TypeId × Value → H} {w : World} (n : Nat) (cs : List Value) (x : DataW H × List MemPlace) (hl : cs.length = 1)
    (h : DataW.trod enc Tryz.prog w 0 (fun _ => true) true n 9 cs = some x) : ∃ a : S, flat strE 0 w.heap.size w cs a ∧ colOk a := by
  match cs, hl with
  | [c0], _ =>
    obtain ⟨s, e0, -, b0⟩ := DataW.trod_string Tryz.underlying9 h
    simp at e0
    have hlen : s.data.toList.length = s.size := by rw [Array.length_toList]; rfl
    subst e0
    exact ⟨s.data.toList, rfl, by unfold colOk; rw [hlen]; simp only [maxLen] at b0; omega⟩
end Go.Proofs.YtmconajkgjfplaaGreat
end

/- A relation of an argument, opened. -/
section
set_option linter.unusedVariables false
set_option linter.unusedSimpArgs false
namespace Go.Proofs.YtmconajkgjfplaaGreat
open Go.ChangeShapes Go.WideShapes Go.ChangeAt Go.RowKit
/-- A relation in memory. -/
def RelIn (w : World) (v : Value) (p : List S × List (List V)) : Prop := ∃ ac cc lv, v = .agg #[.slice ac p.1.length cc, lv] ∧ Strs 0 w.heap.size w (.slice ac p.1.length cc) p.1 ∧ Rws 0 w.heap.size w lv p.2
end Go.Proofs.YtmconajkgjfplaaGreat
end

/- The arithmetic of fold.Total and of the document's: two words, and two halves. No program in sight. -/
section
set_option linter.unusedVariables false
set_option linter.unusedSimpArgs false
namespace Go.Proofs.YtmconajkgjfplaaGreat
open Go.RowKit

def W64 : Int := 18446744073709551616
def addLo (x y c : Int) : Int := (x + y + c) % W64
def addHi (x y c : Int) : Int := (x + y + c) / W64
def up (n : Int) : Int := IntKind.u64.wrap n
def sg (n : Int) : Int := IntKind.u64.wrap (n / 9223372036854775808)

theorem up_bd (n : Int) : 0 ≤ up n ∧ up n < W64 := by
  simp only [up, IntKind.wrap, IntKind.bits, IntKind.signed, W64]; simp; omega
theorem sg_bd (n : Int) : 0 ≤ sg n ∧ sg n < W64 := by
  simp only [sg, IntKind.wrap, IntKind.bits, IntKind.signed, W64]; simp; omega
theorem addLo_bd (x y c : Int) : 0 ≤ addLo x y c ∧ addLo x y c < W64 := by unfold addLo W64; omega
theorem addHi_bd {x y c : Int} (hx : 0 ≤ x) (hx' : x < W64) (hy : 0 ≤ y) (hy' : y < W64) (hc : 0 ≤ c) (hc' : c ≤ 1) : 0 ≤ addHi x y c ∧ addHi x y c ≤ 1 := by unfold addHi; unfold W64 at *; omega

/-- Two words say a sum, but for multiples of 2^128. -/
def Says (lo hi s : Int) : Prop := 0 ≤ lo ∧ lo < W64 ∧ 0 ≤ hi ∧ hi < W64 ∧ ∃ q : Int, lo + hi * W64 + q * (W64 * W64) = s
theorem says_zero : Says 0 0 0 := by unfold Says W64; exact ⟨by omega, by omega, by omega, by omega, 0, by omega⟩
theorem says_add {lo hi s n : Int} (h : Says lo hi s) (h1 : -9223372036854775808 ≤ n) (h2 : n ≤ 9223372036854775807) :
    Says (addLo lo (up n) 0) (addLo hi (sg n) (addHi lo (up n) 0)) (s + n) := by
  obtain ⟨a, b, c, d, q, e⟩ := h
  refine ⟨(addLo_bd _ _ _).1, (addLo_bd _ _ _).2, (addLo_bd _ _ _).1, (addLo_bd _ _ _).2, ?_⟩
  have hu : up n = if 0 ≤ n then n else n + 18446744073709551616 := by
    simp only [up, IntKind.wrap, IntKind.bits, IntKind.signed]; simp; split <;> omega
  have hs : sg n = if 0 ≤ n then 0 else 18446744073709551615 := by
    simp only [sg, IntKind.wrap, IntKind.bits, IntKind.signed]; simp; split <;> omega
  by_cases hn : 0 ≤ n
  · rw [if_pos hn] at hu hs
    exact ⟨q + (hi + sg n + addHi lo (up n) 0) / W64, by rw [hu, hs]; unfold addLo addHi W64 at *; omega⟩
  · rw [if_neg hn] at hu hs
    exact ⟨q + (hi + sg n + addHi lo (up n) 0) / W64 - 1, by rw [hu, hs]; unfold addLo addHi W64 at *; omega⟩

def inI64 (n : Int) : Prop := -9223372036854775808 ≤ n ∧ n ≤ 9223372036854775807
instance (n : Int) : Decidable (inI64 n) := by unfold inI64; infer_instance
/-- What the two words tell: a number, where the sum is one. -/
theorem says_number {lo hi s : Int} (h : Says lo hi s) (h1 : -9223372036854775808 * 1000000 ≤ s) (h2 : s ≤ 9223372036854775808 * 1000000) :
    (hi = sg (wrap64 lo) ↔ inI64 s) ∧ (inI64 s → wrap64 lo = s) := by
  obtain ⟨a, b, c, d, q, e⟩ := h
  by_cases hl : lo < 9223372036854775808
  · have hw : wrap64 lo = lo := by unfold wrap64; omega
    have hs : sg (wrap64 lo) = 0 := by
      rw [hw]; simp only [sg, IntKind.wrap, IntKind.bits, IntKind.signed]; simp; omega
    rw [hs, hw]
    unfold inI64 W64 at *
    constructor <;> omega
  · have hw : wrap64 lo = lo - 18446744073709551616 := by unfold wrap64 W64 at *; omega
    have hs : sg (wrap64 lo) = 18446744073709551615 := by
      rw [hw]; simp only [sg, IntKind.wrap, IntKind.bits, IntKind.signed]; simp; unfold W64 at *; omega
    rw [hs, hw]
    unfold inI64 W64 at *
    constructor <;> omega

/-- The sum of values, if all are numbers and it is one. -/
def total (l : List V) : Option Int :=
  if l.all (fun v => v.kind == 1) then (if inI64 ((l.map V.n).sum) then some ((l.map V.n).sum) else none) else none
def V.ok (v : V) : Prop := inI64 v.n ∧ inI64 v.kind ∧ (v.s.length : Int) ≤ 9223372036854775807
theorem sum_bd : ∀ (l : List V), (∀ v ∈ l, v.ok) → -9223372036854775808 * (l.length : Int) ≤ (l.map V.n).sum ∧ (l.map V.n).sum ≤ 9223372036854775808 * (l.length : Int)
  | [], _ => by simp
  | v :: l, h => by
    have h1 := (h v (List.mem_cons_self ..)).1
    have h2 := sum_bd l (fun x hx => h x (List.mem_cons_of_mem _ hx))
    unfold inI64 at h1
    simp only [List.map_cons, List.sum_cons, List.length_cons]
    push_cast
    omega
end Go.Proofs.YtmconajkgjfplaaGreat
end

/- A value of an argument, opened. -/
section
set_option linter.unusedVariables false
set_option linter.unusedSimpArgs false
namespace Go.Proofs.YtmconajkgjfplaaGreat
open Go.ChangeShapes Go.WideShapes Go.ChangeAt Go.RowKit
set_option maxRecDepth 100000 in
theorem el_V {H : Type} {enc : TypeId × Value → H} {w : World} (n : Nat) (cs : List Value) (x : DataW H × List MemPlace) (hl : cs.length = 3)
    (h : DataW.trod enc Tryz.prog w 0 (fun _ => true) true n 44 cs = some x) : ∃ a : V, flat V.enc 0 w.heap.size w cs a ∧ a.ok := by
  obtain ⟨xs, m, _, _, _, hxl, hf⟩ := DataW.trod_struct Tryz.underlying44 h
  have k1 : Tryz.prog.cellsOf 2 = 1 := by kernel_rfl
  have k2 : Tryz.prog.cellsOf 9 = 1 := by kernel_rfl
  have k3 : Tryz.prog.cellsOf 3 = 1 := by kernel_rfl
  match cs, hl with
  | [c0, c1, c2], _ =>
    match xs, hxl with
    | [y0, y1, y2], _ =>
      have g0 := hf 0 _ rfl
      have g1 := hf 1 _ rfl
      have g2 := hf 2 _ rfl
      simp [k1, k2, k3] at g0 g1 g2
      obtain ⟨i, e0, -, b0⟩ := DataW.trod_int Tryz.underlying3 g0
      obtain ⟨t, e1, -, b1⟩ := DataW.trod_int Tryz.underlying2 g1
      obtain ⟨s, e2, -, b2⟩ := DataW.trod_string Tryz.underlying9 g2
      simp at e0 e1 e2
      have hlen : s.data.toList.length = s.size := by rw [Array.length_toList]; rfl
      exact ⟨⟨i, t, s.data.toList⟩, by simp [flat, V.enc, *], bd_i64 b1, bd_i64 b0, by rw [hlen]; simp only [maxLen] at b2; omega⟩
end Go.Proofs.YtmconajkgjfplaaGreat
end

/- The librarys slices.SortFunc laid at values. (Printed by layt.py and gen.py.) -/
section
set_option linter.unusedVariables false
set_option linter.unusedSimpArgs false
namespace Go.Proofs.YtmconajkgjfplaaGreat
open Go.Shelf
def sortVals_ren : Go.Shelf.Ren := ⟨fun | 6 => 86 | 15 => 84 | 14 => 105 | 28 => 103 | 29 => 104 | 20 => 113 | 21 => 114 | 22 => 115 | 23 => 116 | 24 => 117 | 25 => 118 | 26 => 119 | 27 => 120 | 46 => 123 | 47 => 109 | 48 => 110 | 49 => 124 | 50 => 125 | 57 => 126 | n => n, fun | 22 => 35 | 24 => 44 | 25 => 46 | 3 => 3 | 39 => 119 | 0 => 0 | 53 => 138 | 55 => 121 | 4 => 4 | 46 => 131 | 45 => 130 | 50 => 135 | 5 => 5 | 9 => 9 | 66 => 144 | 70 => 148 | 76 => 155 | 77 => 156 | n => n, fun | n => n⟩
theorem sortVals : Go.Proofs.SlLaysF0.n6 Tryz.prog sortVals_ren := {
  mixed := by kernel_rfl,
  f6 := ⟨Tryz.f86.name, by decide, Tryz.func86.trans (congrArg some (by kernel_rfl))⟩,
  f14 := ⟨Tryz.f105.name, by decide, Tryz.func105.trans (congrArg some (by kernel_rfl))⟩,
  f15 := Tryz.func84.trans (congrArg some (by kernel_rfl)),
  f20 := ⟨Tryz.f113.name, by decide, Tryz.func113.trans (congrArg some (by kernel_rfl))⟩,
  f21 := ⟨Tryz.f114.name, by decide, Tryz.func114.trans (congrArg some (by kernel_rfl))⟩,
  f22 := ⟨Tryz.f115.name, by decide, Tryz.func115.trans (congrArg some (by kernel_rfl))⟩,
  f23 := ⟨Tryz.f116.name, by decide, Tryz.func116.trans (congrArg some (by kernel_rfl))⟩,
  f24 := ⟨Tryz.f117.name, by decide, Tryz.func117.trans (congrArg some (by kernel_rfl))⟩,
  f25 := ⟨Tryz.f118.name, by decide, Tryz.func118.trans (congrArg some (by kernel_rfl))⟩,
  f26 := ⟨Tryz.f119.name, by decide, Tryz.func119.trans (congrArg some (by kernel_rfl))⟩,
  f27 := ⟨Tryz.f120.name, by decide, Tryz.func120.trans (congrArg some (by kernel_rfl))⟩,
  f28 := Tryz.func103.trans (congrArg some (by kernel_rfl)),
  f29 := Tryz.func104.trans (congrArg some (by kernel_rfl)),
  f46 := ⟨Tryz.f123.name, by decide, Tryz.func123.trans (congrArg some (by kernel_rfl))⟩,
  f47 := Tryz.func109.trans (congrArg some (by kernel_rfl)),
  f48 := Tryz.func110.trans (congrArg some (by kernel_rfl)),
  f49 := ⟨Tryz.f124.name, by decide, Tryz.func124.trans (congrArg some (by kernel_rfl))⟩,
  f50 := ⟨Tryz.f125.name, by decide, Tryz.func125.trans (congrArg some (by kernel_rfl))⟩,
  f57 := ⟨Tryz.f126.name, by decide, Tryz.func126.trans (congrArg some (by kernel_rfl))⟩,
  t0 := Tryz.underlying0,
  a0 := Tryz.isAgg0,
  z0 := Tryz.sizeOf0,
  v0 := Tryz.zeroValue0,
  t3 := Tryz.underlying3,
  a3 := Tryz.isAgg3,
  z3 := Tryz.sizeOf3,
  v3 := Tryz.zeroValue3,
  t4 := Tryz.underlying4,
  a4 := Tryz.isAgg4,
  z4 := Tryz.sizeOf4,
  v4 := Tryz.zeroValue4,
  t5 := Tryz.underlying5,
  a5 := Tryz.isAgg5,
  z5 := Tryz.sizeOf5,
  v5 := Tryz.zeroValue5,
  t9 := Tryz.underlying9,
  a9 := Tryz.isAgg9,
  z9 := Tryz.sizeOf9,
  v9 := Tryz.zeroValue9,
  t22 := Tryz.underlying35,
  a22 := Tryz.isAgg35,
  z22 := Tryz.sizeOf35,
  v22 := Tryz.zeroValue35,
  t25 := Tryz.underlying46,
  a25 := Tryz.isAgg46,
  z25 := Tryz.sizeOf46,
  v25 := Tryz.zeroValue46,
  t39 := Tryz.underlying119,
  a39 := Tryz.isAgg119,
  z39 := Tryz.sizeOf119,
  v39 := Tryz.zeroValue119,
  t45 := Tryz.underlying130,
  a45 := Tryz.isAgg130,
  z45 := Tryz.sizeOf130,
  v45 := Tryz.zeroValue130,
  t46 := Tryz.underlying131,
  a46 := Tryz.isAgg131,
  z46 := Tryz.sizeOf131,
  v46 := Tryz.zeroValue131,
  t50 := Tryz.underlying135,
  a50 := Tryz.isAgg135,
  z50 := Tryz.sizeOf135,
  v50 := Tryz.zeroValue135,
  t53 := Tryz.underlying138,
  a53 := Tryz.isAgg138,
  z53 := Tryz.sizeOf138,
  v53 := Tryz.zeroValue138,
  t55 := Tryz.underlying121,
  a55 := Tryz.isAgg121,
  z55 := Tryz.sizeOf121,
  v55 := Tryz.zeroValue121,
  t66 := Tryz.underlying144,
  a66 := Tryz.isAgg144,
  z66 := Tryz.sizeOf144,
  v66 := Tryz.zeroValue144,
  t70 := Tryz.underlying148,
  a70 := Tryz.isAgg148,
  z70 := Tryz.sizeOf148,
  v70 := Tryz.zeroValue148,
  t76 := Tryz.underlying155,
  a76 := Tryz.isAgg155,
  z76 := Tryz.sizeOf155,
  v76 := Tryz.zeroValue155,
  t77 := Tryz.underlying156,
  a77 := Tryz.isAgg156,
  z77 := Tryz.sizeOf156,
  v77 := Tryz.zeroValue156 }
end Go.Proofs.YtmconajkgjfplaaGreat
end

/- How two values stand is a total order. -/
section
set_option linter.unusedVariables false
set_option linter.unusedSimpArgs false
namespace Go.Proofs.YtmconajkgjfplaaGreat
set_option linter.unusedVariables false

/-- A comparison that is a total order's. -/
structure Cmp {α : Type} (c : α → α → Int) : Prop where
  three : ∀ a b, c a b = -1 ∨ c a b = 0 ∨ c a b = 1
  zero : ∀ a b, c a b = 0 ↔ a = b
  anti : ∀ a b, c b a = - c a b
  trans : ∀ a b d, c a b < 0 → c b d < 0 → c a d < 0
theorem icmp_cmp : Cmp icmp where
  three a b := by unfold icmp; split <;> (try split) <;> simp
  zero a b := by unfold icmp; split <;> (try split) <;> (constructor <;> intro h <;> omega)
  anti a b := by unfold icmp; repeat' split
                 all_goals omega
  trans a b d h1 h2 := by
    unfold icmp at *
    have : a < b := by
      by_cases h : a < b
      · exact h
      · rw [if_neg h] at h1; split at h1 <;> omega
    have : b < d := by
      by_cases h : b < d
      · exact h
      · rw [if_neg h] at h2; split at h2 <;> omega
    rw [if_pos (by omega)]
    omega
theorem cb_cons (a b : UInt8) (x y : List UInt8) : Lib.compareBytes (a :: x) (b :: y) = if a < b then -1 else if b < a then 1 else Lib.compareBytes x y := rfl
theorem bytes_cmp : Cmp Lib.compareBytes where
  three a b := by
    induction a generalizing b with
    | nil => cases b <;> simp [Lib.compareBytes]
    | cons x a ih =>
      cases b with
      | nil => simp [Lib.compareBytes]
      | cons y b => rw [cb_cons]; split <;> (try split) <;> first | simp | exact ih b
  zero a b := by
    induction a generalizing b with
    | nil => cases b <;> simp [Lib.compareBytes]
    | cons x a ih =>
      cases b with
      | nil => simp [Lib.compareBytes]
      | cons y b =>
        rw [cb_cons, List.cons.injEq]
        split
        · rename_i h
          constructor
          · intro h; omega
          · rintro ⟨rfl, -⟩; exact absurd h (UInt8.lt_irrefl _)
        · split
          · rename_i h
            constructor
            · intro h; omega
            · rintro ⟨rfl, -⟩; exact absurd h (UInt8.lt_irrefl _)
          · rename_i h1 h2
            rw [ih b]
            have : x = y := UInt8.le_antisymm (UInt8.not_lt.1 h2) (UInt8.not_lt.1 h1)
            simp [this]
  anti a b := by
    induction a generalizing b with
    | nil => cases b <;> simp [Lib.compareBytes]
    | cons x a ih =>
      cases b with
      | nil => simp [Lib.compareBytes]
      | cons y b =>
        rw [cb_cons, cb_cons]
        by_cases h1 : x < y
        · rw [if_pos h1, if_neg (fun h => UInt8.lt_irrefl _ (UInt8.lt_trans h1 h)), if_pos h1]; rfl
        · by_cases h2 : y < x
          · rw [if_pos h2, if_neg h1, if_pos h2]
          · rw [if_neg h2, if_neg h1, if_neg h1, if_neg h2, ih b]
  trans a b d h1 h2 := by
    induction a generalizing b d with
    | nil =>
      cases b with
      | nil => simp [Lib.compareBytes] at h1
      | cons y b =>
        cases d with
        | nil => simp [Lib.compareBytes] at h2
        | cons z d => simp [Lib.compareBytes]
    | cons x a ih =>
      cases b with
      | nil => simp [Lib.compareBytes] at h1
      | cons y b =>
        cases d with
        | nil => simp [Lib.compareBytes] at h2
        | cons z d =>
          rw [cb_cons] at *
          by_cases g1 : x < y
          · by_cases g2 : y < z
            · rw [if_pos (UInt8.lt_trans g1 g2)]; omega
            · rw [if_neg g2] at h2
              by_cases g3 : z < y
              · rw [if_pos g3] at h2; omega
              · have : y = z := UInt8.le_antisymm (UInt8.not_lt.1 g3) (UInt8.not_lt.1 g2)
                subst this
                rw [if_pos g1]; omega
          · rw [if_neg g1] at h1
            by_cases g3 : y < x
            · rw [if_pos g3] at h1; omega
            · rw [if_neg g3] at h1
              have : x = y := UInt8.le_antisymm (UInt8.not_lt.1 g3) (UInt8.not_lt.1 g1)
              subst this
              by_cases g2 : x < z
              · rw [if_pos g2]; omega
              · rw [if_neg g2] at h2 ⊢
                by_cases g4 : z < x
                · rw [if_pos g4] at h2; omega
                · rw [if_neg g4] at h2 ⊢
                  exact ih b d h1 h2
theorem cmpV_cases (a b : V) : cmpV a b = if icmp a.kind b.kind ≠ 0 then icmp a.kind b.kind else if icmp a.n b.n ≠ 0 then icmp a.n b.n else Lib.compareBytes a.s b.s := rfl
theorem cmpV_cmp : Cmp cmpV where
  three a b := by
    rw [cmpV_cases]
    split
    · exact icmp_cmp.three _ _
    · split
      · exact icmp_cmp.three _ _
      · exact bytes_cmp.three _ _
  zero a b := by
    rw [cmpV_cases]
    obtain ⟨ak, an, aw⟩ := a
    obtain ⟨bk, bn, bw⟩ := b
    simp only [V.mk.injEq]
    by_cases h1 : icmp ak bk = 0
    · rw [if_neg (by simp [h1])]
      have e1 := (icmp_cmp.zero _ _).1 h1
      by_cases h2 : icmp an bn = 0
      · rw [if_neg (by simp [h2]), bytes_cmp.zero]
        have e2 := (icmp_cmp.zero _ _).1 h2
        simp [e1, e2]
      · rw [if_pos h2]
        constructor
        · intro h; exact absurd h h2
        · rintro ⟨-, rfl, -⟩; exact absurd ((icmp_cmp.zero _ _).2 rfl) h2
    · rw [if_pos h1]
      constructor
      · intro h; exact absurd h h1
      · rintro ⟨rfl, -, -⟩; exact absurd ((icmp_cmp.zero _ _).2 rfl) h1
  anti a b := by
    rw [cmpV_cases, cmpV_cases, icmp_cmp.anti a.kind b.kind, icmp_cmp.anti a.n b.n, bytes_cmp.anti a.s b.s]
    by_cases h1 : icmp a.kind b.kind = 0 <;> by_cases h2 : icmp a.n b.n = 0 <;> simp [h1, h2]
  trans a b d h1 h2 := by
    rw [cmpV_cases] at *
    have key : ∀ x y z : Int, icmp x y < 0 ∨ icmp x y = 0 → icmp y z < 0 ∨ icmp y z = 0 → (icmp x y < 0 ∨ icmp y z < 0) → icmp x z < 0 := by
      intro x y z k1 k2 k3
      rcases k1 with k1 | k1
      · rcases k2 with k2 | k2
        · exact icmp_cmp.trans _ _ _ k1 k2
        · rw [← (icmp_cmp.zero _ _).1 k2]; exact k1
      · rw [(icmp_cmp.zero _ _).1 k1]
        rcases k3 with k3 | k3
        · omega
        · exact k3
    by_cases g1 : icmp a.kind b.kind = 0
    · rw [if_neg (by simp [g1])] at h1
      have e1 := (icmp_cmp.zero _ _).1 g1
      rw [e1]
      by_cases g2 : icmp b.kind d.kind = 0
      · rw [if_neg (by simp [g2])] at h2 ⊢
        by_cases g3 : icmp a.n b.n = 0
        · rw [if_neg (by simp [g3])] at h1
          have e3 := (icmp_cmp.zero _ _).1 g3
          rw [e3]
          by_cases g4 : icmp b.n d.n = 0
          · rw [if_neg (by simp [g4])] at h2 ⊢
            exact bytes_cmp.trans _ _ _ h1 h2
          · rw [if_pos g4] at h2 ⊢
            exact h2
        · rw [if_pos g3] at h1
          by_cases g4 : icmp b.n d.n = 0
          · rw [(icmp_cmp.zero _ _).1 g4] at h1 g3
            rw [if_pos g3]
            exact h1
          · rw [if_pos g4] at h2
            have := icmp_cmp.trans _ _ _ h1 h2
            rw [if_pos (by omega)]
            exact this
      · rw [if_pos g2] at h2 ⊢
        exact h2
    · rw [if_pos g1] at h1
      by_cases g2 : icmp b.kind d.kind = 0
      · rw [(icmp_cmp.zero _ _).1 g2] at h1 g1
        rw [if_pos g1]
        exact h1
      · rw [if_pos g2] at h2
        have := icmp_cmp.trans _ _ _ h1 h2
        rw [if_pos (by omega)]
        exact this
end Go.Proofs.YtmconajkgjfplaaGreat
end

/- The order of rows, in plain words: a total order; what is sorted, each once, is one list. -/
section
set_option linter.unusedVariables false
set_option linter.unusedSimpArgs false
namespace Go.Proofs.YtmconajkgjfplaaGreat
set_option linter.unusedVariables false

theorem cmpR_cmp : Cmp cmpR where
  three a b := by
    induction a generalizing b with
    | nil => cases b <;> simp [cmpR]
    | cons x a ih =>
      cases b with
      | nil => simp [cmpR]
      | cons y b => rw [cmpR]; split; exact ih b; exact cmpV_cmp.three _ _
  zero a b := by
    induction a generalizing b with
    | nil => cases b <;> simp [cmpR]
    | cons x a ih =>
      cases b with
      | nil => simp [cmpR]
      | cons y b =>
        rw [cmpR, List.cons.injEq]
        split
        · rename_i h; rw [ih b, (cmpV_cmp.zero _ _).1 h]; simp
        · rename_i h
          constructor
          · intro h2; exact absurd h2 h
          · rintro ⟨rfl, -⟩; exact absurd ((cmpV_cmp.zero _ _).2 rfl) h
  anti a b := by
    induction a generalizing b with
    | nil => cases b <;> simp [cmpR]
    | cons x a ih =>
      cases b with
      | nil => simp [cmpR]
      | cons y b =>
        rw [cmpR, cmpR, cmpV_cmp.anti x y]
        by_cases h : cmpV x y = 0
        · rw [if_pos h, if_pos (by omega), ih b]
        · rw [if_neg h, if_neg (by omega)]
  trans a b d h1 h2 := by
    induction a generalizing b d with
    | nil =>
      cases b with
      | nil => simp [cmpR] at h1
      | cons y b =>
        cases d with
        | nil =>
          rw [cmpR] at h2; omega
        | cons z d => simp [cmpR]
    | cons x a ih =>
      cases b with
      | nil => rw [cmpR] at h1; omega
      | cons y b =>
        cases d with
        | nil => rw [cmpR] at h2; omega
        | cons z d =>
          rw [cmpR] at *
          by_cases g1 : cmpV x y = 0
          · rw [if_pos g1] at h1
            rw [(cmpV_cmp.zero _ _).1 g1]
            by_cases g2 : cmpV y z = 0
            · rw [if_pos g2] at h2 ⊢; exact ih b d h1 h2
            · rw [if_neg g2] at h2 ⊢; exact h2
          · rw [if_neg g1] at h1
            by_cases g2 : cmpV y z = 0
            · rw [(cmpV_cmp.zero _ _).1 g2] at h1 g1
              rw [if_neg g1]; exact h1
            · rw [if_neg g2] at h2
              have := cmpV_cmp.trans _ _ _ h1 h2
              rw [if_neg (by omega)]; exact this

/-! ### lists that rise -/
section
variable {α : Type} {c : α → α → Int}
theorem Cmp.self (h : Cmp c) (a : α) : c a a = 0 := (h.zero a a).2 rfl
def Up (c : α → α → Int) (l : List α) : Prop := l.Pairwise fun a b => c a b < 0
theorem up_one (h : Cmp c) : ∀ {l m : List α}, Up c l → Up c m → (∀ x, x ∈ l ↔ x ∈ m) → l = m := by
  intro l
  induction l with
  | nil =>
    intro m _ _ hm
    cases m with
    | nil => rfl
    | cons y m => exact absurd ((hm y).2 List.mem_cons_self) (by simp)
  | cons x l ih =>
    intro m hl hmu hm
    cases m with
    | nil => exact absurd ((hm x).1 List.mem_cons_self) (by simp)
    | cons y m =>
      have hl1 := List.pairwise_cons.1 hl
      have hm1 := List.pairwise_cons.1 hmu
      have hxy : x = y := by
        rcases List.mem_cons.1 ((hm x).1 List.mem_cons_self) with e | e
        · exact e
        · rcases List.mem_cons.1 ((hm y).2 List.mem_cons_self) with e2 | e2
          · exact e2.symm
          · have a1 := hm1.1 x e
            have a2 := hl1.1 y e2
            have := h.anti x y
            omega
      subst hxy
      congr 1
      refine ih hl1.2 hm1.2 (fun z => ?_)
      constructor
      · intro hz
        rcases List.mem_cons.1 ((hm z).1 (List.mem_cons_of_mem _ hz)) with e | e
        · subst e; have := hl1.1 z hz; have := h.self z; omega
        · exact e
      · intro hz
        rcases List.mem_cons.1 ((hm z).2 (List.mem_cons_of_mem _ hz)) with e | e
        · subst e; have := hm1.1 z hz; have := h.self z; omega
        · exact e
/-- One more, at its place, once. -/
def insR (c : α → α → Int) (x : α) : List α → List α
  | [] => [x]
  | y :: r => if c x y < 0 then x :: y :: r else if c x y = 0 then y :: r else y :: insR c x r
theorem insR_mem (h : Cmp c) (x : α) (l : List α) (z : α) : z ∈ insR c x l ↔ z = x ∨ z ∈ l := by
  induction l with
  | nil => simp [insR]
  | cons y r ih =>
    simp only [insR]
    split
    · simp
    · split
      · rename_i h0
        have := (h.zero _ _).1 h0
        subst this
        simp
      · rw [List.mem_cons, ih, List.mem_cons]
        constructor
        · rintro (a | a | a) <;> simp [a]
        · rintro (a | a | a) <;> simp [a]
theorem insR_up (h : Cmp c) (x : α) (l : List α) (hl : Up c l) : Up c (insR c x l) := by
  induction l with
  | nil => exact List.pairwise_singleton _ _
  | cons y r ih =>
    have h1 := List.pairwise_cons.1 hl
    simp only [insR]
    split
    · rename_i hxy
      refine List.pairwise_cons.2 ⟨fun z hz => ?_, hl⟩
      rcases List.mem_cons.1 hz with rfl | hz
      · exact hxy
      · exact h.trans _ _ _ hxy (h1.1 z hz)
    · split
      · exact hl
      · rename_i h2 h3
        refine List.pairwise_cons.2 ⟨fun z hz => ?_, ih h1.2⟩
        rcases (insR_mem h x r z).1 hz with rfl | hz
        · have := h.anti z y; have := h.three z y; omega
        · exact h1.1 z hz
def canonL (c : α → α → Int) (l : List α) : List α := l.foldl (fun o x => insR c x o) []
theorem canon_fold (h : Cmp c) (l : List α) : ∀ o, Up c o → Up c (l.foldl (fun o x => insR c x o) o) ∧ ∀ z, z ∈ l.foldl (fun o x => insR c x o) o ↔ z ∈ o ∨ z ∈ l := by
  induction l with
  | nil => intro o ho; exact ⟨ho, fun z => by simp⟩
  | cons x r ih =>
    intro o ho
    rw [List.foldl_cons]
    have := ih _ (insR_up h x o ho)
    refine ⟨this.1, fun z => ?_⟩
    rw [this.2 z, insR_mem h, List.mem_cons]
    constructor
    · rintro ((a | a) | a) <;> simp [a]
    · rintro (a | a | a) <;> simp [a]
theorem canon_up (h : Cmp c) (l : List α) : Up c (canonL c l) := (canon_fold h l [] List.Pairwise.nil).1
theorem canon_mem (h : Cmp c) (l : List α) (z : α) : z ∈ canonL c l ↔ z ∈ l := by
  rw [canonL, (canon_fold h l [] List.Pairwise.nil).2 z]; simp
theorem canon_self (h : Cmp c) {l : List α} (hl : Up c l) : canonL c l = l := up_one h (canon_up h l) hl (canon_mem h l)
theorem canon_one (h : Cmp c) {l m : List α} (hm : ∀ x, x ∈ l ↔ x ∈ m) : canonL c l = canonL c m := up_one h (canon_up h l) (canon_up h m) (fun x => by rw [canon_mem h, canon_mem h]; exact hm x)
/-- Each one of a run of equals once. -/
def compactL (c : α → α → Int) : List α → List α
  | [] => []
  | [x] => [x]
  | x :: y :: r => if c y x = 0 then compactL c (y :: r) else x :: compactL c (y :: r)
theorem compactL_mem (h : Cmp c) : ∀ (l : List α) (z : α), z ∈ compactL c l ↔ z ∈ l
  | [], z => by simp [compactL]
  | [x], z => by simp [compactL]
  | x :: y :: r, z => by
    rw [compactL]
    split
    · rename_i h0
      rw [compactL_mem h (y :: r) z, (h.zero _ _).1 h0]
      simp
    · rw [List.mem_cons, compactL_mem h (y :: r) z, List.mem_cons (a := z) (b := x)]
theorem compactL_up (h : Cmp c) : ∀ (l : List α), l.Pairwise (fun a b => ¬ c b a < 0) → Up c (compactL c l)
  | [], _ => by rw [compactL]; exact List.Pairwise.nil
  | [x], _ => by rw [compactL]; exact List.pairwise_singleton _ _
  | x :: y :: r, hl => by
    have h1 := List.pairwise_cons.1 hl
    rw [compactL]
    split
    · exact compactL_up h (y :: r) h1.2
    · rename_i hne
      refine List.pairwise_cons.2 ⟨fun z hz => ?_, compactL_up h (y :: r) h1.2⟩
      rw [compactL_mem h] at hz
      have hyx := h1.1 y List.mem_cons_self
      have a1 := h.three y x
      have a2 := h.anti y x
      rcases List.mem_cons.1 hz with rfl | hz
      · omega
      · have hzy := (List.pairwise_cons.1 h1.2).1 z hz
        have a3 := h.three z y
        have a4 := h.anti z y
        by_cases e : c z y = 0
        · rw [(h.zero _ _).1 e]; omega
        · exact h.trans _ y _ (by omega) (by omega)
theorem compact_canon (h : Cmp c) {l m : List α} (hl : l.Pairwise (fun a b => ¬ c b a < 0)) (hm : ∀ x, x ∈ l ↔ x ∈ m) : compactL c l = canonL c m :=
  up_one h (compactL_up h l hl) (canon_up h m) (fun x => by rw [compactL_mem h, canon_mem h]; exact hm x)
end
end Go.Proofs.YtmconajkgjfplaaGreat
end

/- The library's slices.SortFunc laid at rows. (Printed by layt.py; the numbers are the seat rowsfold's.) -/
section
set_option linter.unusedVariables false
set_option linter.unusedSimpArgs false
namespace Go.Proofs.YtmconajkgjfplaaGreat
open Go.Shelf
def sortRows_ren : Go.Shelf.Ren := ⟨fun | 6 => 58 | 15 => 84 | 14 => 83 | 28 => 103 | 29 => 104 | 20 => 94 | 21 => 96 | 22 => 97 | 23 => 98 | 24 => 99 | 25 => 100 | 26 => 101 | 27 => 102 | 46 => 108 | 47 => 109 | 48 => 110 | 49 => 111 | 50 => 112 | 57 => 122 | n => n, fun | 22 => 23 | 24 => 36 | 25 => 34 | 3 => 3 | 39 => 119 | 0 => 0 | 53 => 138 | 55 => 121 | 4 => 4 | 46 => 131 | 45 => 130 | 50 => 135 | 5 => 5 | 9 => 9 | 66 => 144 | 70 => 148 | 76 => 155 | 77 => 156 | n => n, fun | n => n⟩
theorem sortRows : Go.Proofs.SlLaysF.n6 Tryz.prog sortRows_ren := {
  mixed := by kernel_rfl,
  f6 := ⟨Tryz.f58.name, by decide, Tryz.func58.trans (congrArg some (by kernel_rfl))⟩,
  f14 := ⟨Tryz.f83.name, by decide, Tryz.func83.trans (congrArg some (by kernel_rfl))⟩,
  f15 := Tryz.func84.trans (congrArg some (by kernel_rfl)),
  f20 := ⟨Tryz.f94.name, by decide, Tryz.func94.trans (congrArg some (by kernel_rfl))⟩,
  f21 := ⟨Tryz.f96.name, by decide, Tryz.func96.trans (congrArg some (by kernel_rfl))⟩,
  f22 := ⟨Tryz.f97.name, by decide, Tryz.func97.trans (congrArg some (by kernel_rfl))⟩,
  f23 := ⟨Tryz.f98.name, by decide, Tryz.func98.trans (congrArg some (by kernel_rfl))⟩,
  f24 := ⟨Tryz.f99.name, by decide, Tryz.func99.trans (congrArg some (by kernel_rfl))⟩,
  f25 := ⟨Tryz.f100.name, by decide, Tryz.func100.trans (congrArg some (by kernel_rfl))⟩,
  f26 := ⟨Tryz.f101.name, by decide, Tryz.func101.trans (congrArg some (by kernel_rfl))⟩,
  f27 := ⟨Tryz.f102.name, by decide, Tryz.func102.trans (congrArg some (by kernel_rfl))⟩,
  f28 := Tryz.func103.trans (congrArg some (by kernel_rfl)),
  f29 := Tryz.func104.trans (congrArg some (by kernel_rfl)),
  f46 := ⟨Tryz.f108.name, by decide, Tryz.func108.trans (congrArg some (by kernel_rfl))⟩,
  f47 := Tryz.func109.trans (congrArg some (by kernel_rfl)),
  f48 := Tryz.func110.trans (congrArg some (by kernel_rfl)),
  f49 := ⟨Tryz.f111.name, by decide, Tryz.func111.trans (congrArg some (by kernel_rfl))⟩,
  f50 := ⟨Tryz.f112.name, by decide, Tryz.func112.trans (congrArg some (by kernel_rfl))⟩,
  f57 := ⟨Tryz.f122.name, by decide, Tryz.func122.trans (congrArg some (by kernel_rfl))⟩,
  t0 := Tryz.underlying0,
  a0 := Tryz.isAgg0,
  z0 := Tryz.sizeOf0,
  v0 := Tryz.zeroValue0,
  t3 := Tryz.underlying3,
  a3 := Tryz.isAgg3,
  z3 := Tryz.sizeOf3,
  v3 := Tryz.zeroValue3,
  t4 := Tryz.underlying4,
  a4 := Tryz.isAgg4,
  z4 := Tryz.sizeOf4,
  v4 := Tryz.zeroValue4,
  t5 := Tryz.underlying5,
  a5 := Tryz.isAgg5,
  z5 := Tryz.sizeOf5,
  v5 := Tryz.zeroValue5,
  t9 := Tryz.underlying9,
  a9 := Tryz.isAgg9,
  z9 := Tryz.sizeOf9,
  v9 := Tryz.zeroValue9,
  t22 := Tryz.underlying23,
  a22 := Tryz.isAgg23,
  z22 := Tryz.sizeOf23,
  v22 := Tryz.zeroValue23,
  a24 := Tryz.isAgg36,
  z24 := Tryz.sizeOf36,
  t25 := Tryz.underlying34,
  a25 := Tryz.isAgg34,
  z25 := Tryz.sizeOf34,
  v25 := Tryz.zeroValue34,
  t39 := Tryz.underlying119,
  a39 := Tryz.isAgg119,
  z39 := Tryz.sizeOf119,
  v39 := Tryz.zeroValue119,
  t45 := Tryz.underlying130,
  a45 := Tryz.isAgg130,
  z45 := Tryz.sizeOf130,
  v45 := Tryz.zeroValue130,
  t46 := Tryz.underlying131,
  a46 := Tryz.isAgg131,
  z46 := Tryz.sizeOf131,
  v46 := Tryz.zeroValue131,
  t50 := Tryz.underlying135,
  a50 := Tryz.isAgg135,
  z50 := Tryz.sizeOf135,
  v50 := Tryz.zeroValue135,
  t53 := Tryz.underlying138,
  a53 := Tryz.isAgg138,
  z53 := Tryz.sizeOf138,
  v53 := Tryz.zeroValue138,
  t55 := Tryz.underlying121,
  a55 := Tryz.isAgg121,
  z55 := Tryz.sizeOf121,
  v55 := Tryz.zeroValue121,
  t66 := Tryz.underlying144,
  a66 := Tryz.isAgg144,
  z66 := Tryz.sizeOf144,
  v66 := Tryz.zeroValue144,
  t70 := Tryz.underlying148,
  a70 := Tryz.isAgg148,
  z70 := Tryz.sizeOf148,
  v70 := Tryz.zeroValue148,
  t76 := Tryz.underlying155,
  a76 := Tryz.isAgg155,
  z76 := Tryz.sizeOf155,
  v76 := Tryz.zeroValue155,
  t77 := Tryz.underlying156,
  a77 := Tryz.isAgg156,
  z77 := Tryz.sizeOf156,
  v77 := Tryz.zeroValue156 }
end Go.Proofs.YtmconajkgjfplaaGreat
end

/- Worlds that differ in some blocks alone. -/
section
set_option linter.unusedVariables false
set_option linter.unusedSimpArgs false
namespace Go.Proofs.YtmconajkgjfplaaGreat
open Go.RowKit

/-- Of what was there nothing has turned but blocks of which A holds. -/
structure Only (A : Nat → Prop) (w w' : World) : Prop where
  os : w'.os = w.os
  tape : w'.tape = w.tape
  output : w'.output = w.output
  size : w.heap.size ≤ w'.heap.size
  block : ∀ k, k < w.heap.size → ¬ A k → w'.heap[k]? = w.heap[k]?
theorem Only.refl (A : Nat → Prop) (w : World) : Only A w w := ⟨rfl, rfl, rfl, Nat.le_refl _, fun _ _ _ => rfl⟩
theorem Only.trans {A : Nat → Prop} {a b c : World} (h : Only A a b) (k : Only A b c) : Only A a c :=
  ⟨k.os.trans h.os, k.tape.trans h.tape, k.output.trans h.output, Nat.le_trans h.size k.size, fun i hi hA => (k.block i (Nat.lt_of_lt_of_le hi h.size) hA).trans (h.block i hi hA)⟩
theorem Only.mono {A A' : Nat → Prop} {a b : World} (h : Only A a b) (hA : ∀ k, k < a.heap.size → A k → A' k) : Only A' a b := ⟨h.os, h.tape, h.output, h.size, fun k hk hn => h.block k hk (fun e => hn (hA k hk e))⟩
theorem Below.only {A : Nat → Prop} {w w' : World} (h : Below w.heap.size w w') : Only A w w' := ⟨h.os, h.tape, h.output, h.size, fun k hk _ => h.block k hk⟩
theorem Below.onlyGe {B : Nat} {w w' : World} (h : Below B w w') : Only (fun k => B ≤ k) w w' := ⟨h.os, h.tape, h.output, h.size, fun k _ hn => h.block k (by omega)⟩
theorem Only.below {A : Nat → Prop} {B : Nat} {w w' : World} (h : Only A w w') (hB : B ≤ w.heap.size) (hA : ∀ k, A k → B ≤ k) : Below B w w' := ⟨h.os, h.tape, h.output, h.size, fun k hk => h.block k (by omega) (fun e => by have := hA k e; omega)⟩
theorem Only.agree {A : Nat → Prop} {lo hi : Nat} {w w' : World} (h : Only A w w') (hh : hi ≤ w.heap.size) (hA : ∀ k, A k → k < lo ∨ hi ≤ k) : Agree lo hi w w' := fun k h1 h2 => h.block k (by omega) (fun e => by have := hA k e; omega)
theorem Only.blk {A : Nat → Prop} {w w' : World} {b : Nat} {cs : List Value} {t : TypeId} (h : Only A w w') (hb : Blk w b cs t) (hA : ¬ A b) : Blk w' b cs t := (h.block b hb.lt hA).trans hb
theorem Only.setCell {A : Nat → Prop} (w : World) {p : Addr} (hp : A p.block) (u : Value) : Only A w (w.setCell p u) := ⟨rfl, rfl, rfl, by simp [World.setCell], fun k _ hn => Below.heap_setCell _ _ _ _ (fun e => hn (e ▸ hp))⟩
theorem Only.alloc {A : Nat → Prop} (w : World) (o : Obj) : Only A w (w.alloc o) := ⟨rfl, rfl, rfl, by simp, fun k hk _ => Below.heap_alloc w o k hk⟩
theorem Only.drew {A : Nat → Prop} (w : World) : Only A w w.drew := ⟨rfl, rfl, rfl, Nat.le_refl _, fun _ _ _ => rfl⟩
theorem Only.putObj {A : Nat → Prop} (w : World) {b : Nat} (hb : A b) (o : Obj) : Only A w (w.putObj b o) := ⟨rfl, rfl, rfl, by simp [World.putObj], fun k _ hn => World.putObj_heap_other (fun e => hn (by subst e; exact hb))⟩
end Go.Proofs.YtmconajkgjfplaaGreat
end

/- Rows of a call's own, sorted by the library. -/
section
set_option linter.unusedVariables false
set_option linter.unusedSimpArgs false
namespace Go.Proofs.YtmconajkgjfplaaGreat
open Go.RowKit Go.Sort Go.Shelf
set_option linter.unusedVariables false

/-- A header and its row, as they lie in a world, outside of block g. -/
abbrev HRow (lo g : Nat) (w : World) : Type := { p : Value × List V // OwnV lo w p.1 p.2 ∧ p.1.ownBlock ≠ some g }
instance (lo g : Nat) (w : World) : Inhabited (HRow lo g w) := ⟨⟨(.slice none 0 0, []), Own.nil _ _ _ _ _, by simp [Value.ownBlock]⟩⟩
def hrE {lo g : Nat} {w : World} (p : HRow lo g w) : Value := p.1.1
def hrC {lo g : Nat} {w : World} (p q : HRow lo g w) : Int := cmpR p.1.2 q.1.2
theorem hr_one {lo g : Nat} {w : World} : OneCell (hrE (lo := lo) (g := g) (w := w)) := fun p => by
  obtain ⟨a, c, h⟩ := Own.slice p.2.1
  unfold hrE
  rw [h]
  rfl
theorem hr_swo {lo g : Nat} {w : World} : SWO (ltOf (hrC (lo := lo) (g := g) (w := w))) where
  irrefl p := by
    unfold ltOf hrC
    rw [cmpR_cmp.self]
    simp
  trans p q r h1 h2 := by
    unfold ltOf hrC at *
    simp only [decide_eq_true_eq] at *
    exact cmpR_cmp.trans _ _ _ h1 h2
  ntrans p q r h1 h2 := by
    unfold ltOf hrC at *
    simp only [decide_eq_false_iff_not] at *
    intro h3
    have a1 := cmpR_cmp.three p.1.2 q.1.2
    have a2 := cmpR_cmp.three q.1.2 r.1.2
    by_cases e1 : cmpR p.1.2 q.1.2 = 0
    · rw [(cmpR_cmp.zero _ _).1 e1] at h3; omega
    · by_cases e2 : cmpR q.1.2 r.1.2 = 0
      · rw [← (cmpR_cmp.zero _ _).1 e2] at h3; omega
      · have b1 := cmpR_cmp.anti p.1.2 q.1.2
        have b2 := cmpR_cmp.anti q.1.2 r.1.2
        have := cmpR_cmp.trans r.1.2 q.1.2 p.1.2 (by omega) (by omega)
        have b3 := cmpR_cmp.anti p.1.2 r.1.2
        omega
theorem heap_sortRow {α : Type} [Inhabited α] {enc : α → Value} {w : World} {g n : Nat} {os : Array Obj} {cur : Array Value} {e : TypeId} {fr : Nat × Nat} (d : Array α) (hb : w.heap[g]? = some (.cells cur e fr)) :
    (sortWorld enc w g 0 n d os).heap[g]? = some (.cells (putCells enc 0 d cur) e fr) := by
  have hg : g < w.heap.size := (Array.getElem?_eq_some_iff.1 hb).1
  unfold sortWorld
  rw [heap_grow_old _ _ (by simpa using hg)]
  simp [putRow, mapBlock, Sort.ahead, Array.getElem?_modify, hb, onCells]
theorem heap_sortOther {α : Type} [Inhabited α] {enc : α → Value} {w : World} {g n : Nat} {os : Array Obj} (d : Array α) {k : Nat} (hk : k < w.heap.size) (hne : k ≠ g) : (sortWorld enc w g 0 n d os).heap[k]? = w.heap[k]? := by
  unfold sortWorld
  rw [heap_grow_old _ _ (by simpa using hk)]
  simp [putRow, mapBlock, Sort.ahead, Array.getElem?_modify]
  intro e
  exact absurd e.symm hne
theorem size_sort {α : Type} [Inhabited α] {enc : α → Value} {w : World} {g n : Nat} {os : Array Obj} (d : Array α) : w.heap.size ≤ (sortWorld enc w g 0 n d os).heap.size := by
  simp [sortWorld, grow, putRow, mapBlock, Sort.ahead]
theorem below_sort {α : Type} [Inhabited α] {enc : α → Value} {w : World} {g n lo : Nat} {os : Array Obj} (d : Array α) (hlo : lo ≤ g) (hg : g < w.heap.size) : Below lo w (sortWorld enc w g 0 n d os) :=
  ⟨rfl, rfl, rfl, size_sort d, fun k hk => heap_sortOther d (by omega) (by omega)⟩
theorem take_putCells' {α : Type} [Inhabited α] (enc : α → Value) (cur : Array Value) (d : Array α) (h : d.size ≤ cur.size) : (putCells enc 0 d cur).toList.take d.size = d.toList.map enc := by
  apply List.ext_getElem?
  intro j
  by_cases hj : j < d.size
  · rw [List.getElem?_take_of_lt hj, Array.getElem?_toList]
    simp [putCells, hj, show j < cur.size by omega]
  · rw [List.getElem?_take_eq_none (by omega), List.getElem?_eq_none (by simp; omega)]
theorem flat_vE (l : List Value) : l.flatMap vE = l := by
  induction l with
  | nil => rfl
  | cons x r ih => rw [List.flatMap_cons, ih]; rfl
theorem rowsCompare_sort {lo g n : Nat} {w : World} : CmpLays1 Tryz.prog 9 #[] (hrE (lo := lo) (g := g) (w := w)) hrC g 0 n w := by
  intro m os dk hs x y
  have keep : ∀ p : HRow lo g w, OwnV lo (sortWorld hrE w g 0 m dk os) (hrE p) p.1.2 := fun p =>
    Own.same p.2.1 (fun k hk => heap_sortOther dk (Own.lt p.2.1 k hk).2 (fun e => p.2.2 (e ▸ hk)))
  have h := rowsCompare_any lo _ lo _ x.1.2 y.1.2 (hrE x) (hrE y) (sortWorld hrE w g 0 m dk os) (OwnV.sl (keep x)) (OwnV.sl (keep y)) (Nat.le_refl _) (Nat.le_refl _)
    (fun e w' => e = .returned (.int .i64 (hrC x y)) ∧ ∃ q os', w' = grow ((sortWorld hrE w g 0 m dk os).drewN q) os') (fun w' hg => ⟨rfl, hg⟩)
  simpa using h
set_option maxRecDepth 100000 in
set_option maxHeartbeats 2000000 in
/-- slices.SortFunc of rows of a call's own. -/
theorem sortRows_any (lo : Nat) (v : Value) (hs : List Value) (xs : List (List V)) (w : World) (h : OwnR lo w v hs xs) (hlen : xs.length ≤ 1000000000000) (R : Ending → World → Prop)
    (hR : ∀ w' hs' xs', Only (fun z => v.ownBlock = some z) w w' → OwnR lo w' v hs' xs' → xs'.Perm xs → xs'.Pairwise (fun a b => ¬ cmpR b a < 0) → R (.returned (.tuple #[])) w') :
    Calls Tryz.prog 58 #[v, .func (.func 9) #[] #[]] w R := by
  have hl := h.len
  by_cases hx : hs = []
  · subst hx
    have hx2 : xs = [] := List.eq_nil_of_length_eq_zero (by rw [← hl]; rfl)
    subst hx2
    obtain ⟨p, cap, hv⟩ := Own.slice h.own
    have hv' : v = .slice p 0 cap := hv
    have hr := hR w [] [] (Only.refl _ _) h (List.Perm.refl _) List.Pairwise.nil
    subst hv'
    have hc := AnyF.slices_SortFunc_none (P := Tryz.prog) { sortRows with } p cap (.func (.func 9) #[] #[]) w
    exact hc.mono (fun e w' ⟨he, hw⟩ => by rw [he, hw]; exact hr)
  · rcases h.own.2 with ⟨-, hn⟩ | ⟨g, cap, cur, hv, hb, hg, hnc, hcm, hcs, htake⟩
    · exact absurd (List.eq_nil_of_length_eq_zero hn) hx
    rw [Nat.mul_one] at hcs htake
    rw [flat_vE] at htake
    have hgl : g < w.heap.size := (Array.getElem?_eq_some_iff.1 hg).1
    have hap : ∀ i (hi : i < hs.length), hs[i].ownBlock ≠ some g := fun i hi e => h.apart i hi g e (by rw [hv]; rfl)
    let d : Array (HRow lo g w) := Array.ofFn (n := hs.length) (fun i => ⟨(hs[i.1], xs[i.1]'(by rw [← hl]; exact i.2)), h.row i.1 i.2 (by rw [← hl]; exact i.2), hap i.1 i.2⟩)
    have hd : d.size = hs.length := Array.size_ofFn
    have hd1 : d.toList.map hrE = hs := by
      apply List.ext_getElem
      · simp [hd]
      · intro i h1 h2; simp [d, hrE]
    have hd2 : d.toList.map (fun p => p.1.2) = xs := by
      apply List.ext_getElem
      · simp [hd, hl]
      · intro i h1 h2; simp [d]
    have hH : Holds hrE w g 0 d := by
      intro j hj
      have hj' : j < hs.length := by rw [← hd]; exact hj
      refine ⟨?_, by simp [World.frozen?, hg]⟩
      have h1 : (cur.toList.take hs.length)[j]? = hs[j]? := by rw [htake]
      rw [List.getElem?_take_of_lt hj'] at h1
      simp only [World.cell?, hg, Nat.zero_add]
      simp only [Option.isSome_none, Bool.false_eq_true, if_false]
      rw [← Array.getElem?_toList, h1, List.getElem?_eq_getElem hj', getElem!_pos d j hj]
      simp [d, hrE]
    have hc := Any.slices_SortFunc (P := Tryz.prog) sortRows hrE hr_one hrC hr_swo 9 #[] g 0 cap d w (enters_of Tryz.func9 (by kernel_rfl) rfl) rowsCompare_sort hH hgl (by omega)
    rw [hd] at hc
    rw [hv]
    refine Calls.mono hc (fun e w' ⟨he, d', n, os, hp, hso, hw⟩ => ?_)
    subst he
    have hds : d'.size = hs.length := by rw [hp.1, hd]
    have hperm : d'.toList.Perm d.toList := by
      have := hp.2.2
      rwa [Array.extract_eq_self_of_le (by omega), Array.extract_eq_self_of_le (by omega)] at this
    have hl' : (d'.toList.map hrE).length = hs.length := by simp [hds]
    have hgl' := size_sort (enc := hrE) (w := w) (g := g) (n := n) (os := os) d'
    refine hR w' (d'.toList.map hrE) (d'.toList.map (fun p => p.1.2)) (by rw [hw, hv]; exact ⟨rfl, rfl, rfl, hgl', fun k hk hn => heap_sortOther d' hk (fun e => hn (by rw [e]; rfl))⟩) ?_ (by rw [← hd2]; exact hperm.map _) ?_
    · refine ⟨?_, by simp, fun i hi h2 => ?_, fun i hi k hk => ?_⟩
      · refine ⟨by rw [hl', flat_vE, Nat.mul_one, hl'], .inr ⟨g, cap, _, by rw [hl', hv], hb, by rw [hw]; exact heap_sortRow d' hg, by rw [hl']; exact hnc, hcm, by simp [putCells, hcs], ?_⟩⟩
        rw [hl', flat_vE, Nat.mul_one, ← hds]
        exact take_putCells' hrE cur d' (by omega)
      · simp only [List.getElem_map]
        rw [hw]
        exact Own.same (d'.toList[i]'(by simpa using hi)).2.1 (fun k hk => heap_sortOther d' (Own.lt (d'.toList[i]'(by simpa using hi)).2.1 k hk).2 (fun e => (d'.toList[i]'(by simpa using hi)).2.2 (e ▸ hk)))
      · simp only [List.getElem_map] at hk
        rw [hv]
        intro e
        have e2 : g = k := by simpa [Value.ownBlock] using e
        exact (d'.toList[i]'(by simpa using hi)).2.2 (hk.trans (congrArg some e2.symm))
    · rw [List.pairwise_map, List.pairwise_iff_getElem]
      intro i j hi hj hij
      have := hso i j (Nat.zero_le _) hij (by rw [← hds]; simpa using hj)
      rw [getElem!_pos d' i (by simpa using hi), getElem!_pos d' j (by simpa using hj)] at this
      unfold ltOf hrC at this
      simpa using this
end Go.Proofs.YtmconajkgjfplaaGreat
end
