/- Plain lemmas on worlds, cells and slices that the walks of this seat use: no function of the program in sight. -/
import Derived.WalkKit
import Derived.Lib.Hide
import Derived.Deep.AppendSrc
import Derived.Lib.ConvBytes
import Derived.Laws.IdiomStrings
import Derived.Laws.ResultCell
import Derived.Shelf.Abstract
import Derived.Deep.QuietTactic
import Derived.BigQuiet
namespace Go.Proofs.Ytkcpanaojehgiaa
open Go.RowKit

/-! ### worlds that agree on the blocks from lo on, ahead of hi -/
def Agree (lo hi : Nat) (w w' : World) : Prop := ∀ k, lo ≤ k → k < hi → w'.heap[k]? = w.heap[k]?
theorem Agree.refl (lo hi : Nat) (w : World) : Agree lo hi w w := fun _ _ _ => rfl
theorem Agree.trans {lo hi : Nat} {a b c : World} (h : Agree lo hi a b) (k : Agree lo hi b c) : Agree lo hi a c := fun i h1 h2 => (k i h1 h2).trans (h i h1 h2)
theorem Agree.mono {lo hi lo' hi' : Nat} {a b : World} (h : Agree lo hi a b) (h1 : lo ≤ lo') (h2 : hi' ≤ hi) : Agree lo' hi' a b := fun i k1 k2 => h i (by omega) (by omega)
theorem Agree.below {B lo hi : Nat} {w w' : World} (h : Below B w w') (hh : hi ≤ B) : Agree lo hi w w' := fun k _ h2 => h.block k (by omega)
theorem Agree.setCell {lo hi : Nat} (w : World) {p : Addr} (hp : p.block < lo ∨ hi ≤ p.block) (u : Value) : Agree lo hi w (w.setCell p u) :=
  fun k h1 h2 => Below.heap_setCell w p u k (by omega)
theorem Agree.alloc {lo hi : Nat} (w : World) (o : Obj) (hh : hi ≤ w.heap.size) : Agree lo hi w (w.alloc o) := fun k _ h2 => Below.heap_alloc w o k (by omega)
theorem Agree.cell {lo hi : Nat} {w w' : World} (h : Agree lo hi w w') {p : Addr} (h1 : lo ≤ p.block) (h2 : p.block < hi) : w'.cell? p = w.cell? p := World.cell?_of_block (h p.block h1 h2)
theorem Agree.grown {lo hi : Nat} {w w' : World} {row : Option Nat} (hg : w.grownBy w' row) (hh : hi ≤ w.heap.size) (hr : ∀ k, row = some k → k < lo ∨ hi ≤ k) : Agree lo hi w w' :=
  fun k h1 h2 => hg.block k (by omega) (fun e => by have := hr k e.symm; omega)

/-- The end of a walk: what is returned, spelled otherwise. -/
theorem fin {R : Ending → World → Prop} {v v' : Value} {w : World} (h : R (.returned v) w) (hv : v = v') : R (.returned v') w := hv ▸ h

@[simp] theorem bget (l : List UInt8) (i : Nat) (h : i < (ByteArray.mk l.toArray).size) : (ByteArray.mk l.toArray)[i] = l[i]'h := rfl
theorem bsize (l : List UInt8) : (ByteArray.mk l.toArray).size = l.length := rfl

/-! ### cells -/
def CellsAt (w : World) (b o : Nat) (cs : List Value) : Prop := ∀ j v, cs[j]? = some v → w.cell? ⟨b, o + j, none⟩ = some v
theorem CellsAt.agree {lo hi : Nat} {w w' : World} {b o : Nat} {cs : List Value} (h : CellsAt w b o cs) (ha : Agree lo hi w w') (h1 : lo ≤ b) (h2 : b < hi) : CellsAt w' b o cs :=
  fun j v e => (ha.cell (p := ⟨b, o + j, none⟩) h1 h2).trans (h j v e)
theorem CellsAt.new (w : World) (cs : List Value) (t : TypeId) : CellsAt (w.alloc (.cells cs.toArray t)) w.heap.size 0 cs := by
  intro j v e
  rw [Nat.zero_add, World.cell?_alloc_new]
  simpa using e
theorem CellsAt.newAt (w : World) (cs : List Value) (t : TypeId) {n : Nat} (hn : n = w.heap.size) : CellsAt (w.alloc (.cells cs.toArray t)) n 0 cs := hn ▸ CellsAt.new w cs t
theorem CellsAt.drew {w : World} {b o : Nat} {cs : List Value} (h : CellsAt w b o cs) : CellsAt w.drew b o cs := h
theorem CellsAt.c1 {w : World} {b o : Nat} {v0 : Value} (h : CellsAt w b o [v0]) : w.cell? ⟨b, o, none⟩ = some v0 := h 0 _ rfl
theorem CellsAt.c2 {w : World} {b o : Nat} {v0 v1 : Value} (h : CellsAt w b o [v0, v1]) : w.cell? ⟨b, o, none⟩ = some v0 ∧ w.cell? ⟨b, o + 1, none⟩ = some v1 := ⟨h 0 _ rfl, h 1 _ rfl⟩
theorem CellsAt.c3 {w : World} {b o : Nat} {v0 v1 v2 : Value} (h : CellsAt w b o [v0, v1, v2]) :
    w.cell? ⟨b, o, none⟩ = some v0 ∧ w.cell? ⟨b, o + 1, none⟩ = some v1 ∧ w.cell? ⟨b, o + 2, none⟩ = some v2 := ⟨h 0 _ rfl, h 1 _ rfl, h 2 _ rfl⟩
theorem CellsAt.c4 {w : World} {b o : Nat} {v0 v1 v2 v3 : Value} (h : CellsAt w b o [v0, v1, v2, v3]) :
    w.cell? ⟨b, o, none⟩ = some v0 ∧ w.cell? ⟨b, o + 1, none⟩ = some v1 ∧ w.cell? ⟨b, o + 2, none⟩ = some v2 ∧ w.cell? ⟨b, o + 3, none⟩ = some v3 := ⟨h 0 _ rfl, h 1 _ rfl, h 2 _ rfl, h 3 _ rfl⟩
theorem CellsAt.c5 {w : World} {b o : Nat} {v0 v1 v2 v3 v4 : Value} (h : CellsAt w b o [v0, v1, v2, v3, v4]) :
    w.cell? ⟨b, o, none⟩ = some v0 ∧ w.cell? ⟨b, o + 1, none⟩ = some v1 ∧ w.cell? ⟨b, o + 2, none⟩ = some v2 ∧ w.cell? ⟨b, o + 3, none⟩ = some v3 ∧ w.cell? ⟨b, o + 4, none⟩ = some v4 :=
  ⟨h 0 _ rfl, h 1 _ rfl, h 2 _ rfl, h 3 _ rfl, h 4 _ rfl⟩
theorem CellsAt.c6 {w : World} {b o : Nat} {v0 v1 v2 v3 v4 v5 : Value} (h : CellsAt w b o [v0, v1, v2, v3, v4, v5]) :
    w.cell? ⟨b, o, none⟩ = some v0 ∧ w.cell? ⟨b, o + 1, none⟩ = some v1 ∧ w.cell? ⟨b, o + 2, none⟩ = some v2 ∧ w.cell? ⟨b, o + 3, none⟩ = some v3 ∧ w.cell? ⟨b, o + 4, none⟩ = some v4 ∧ w.cell? ⟨b, o + 5, none⟩ = some v5 :=
  ⟨h 0 _ rfl, h 1 _ rfl, h 2 _ rfl, h 3 _ rfl, h 4 _ rfl, h 5 _ rfl⟩
theorem CellsAt.c7 {w : World} {b o : Nat} {v0 v1 v2 v3 v4 v5 v6 : Value} (h : CellsAt w b o [v0, v1, v2, v3, v4, v5, v6]) :
    w.cell? ⟨b, o, none⟩ = some v0 ∧ w.cell? ⟨b, o + 1, none⟩ = some v1 ∧ w.cell? ⟨b, o + 2, none⟩ = some v2 ∧ w.cell? ⟨b, o + 3, none⟩ = some v3 ∧ w.cell? ⟨b, o + 4, none⟩ = some v4 ∧ w.cell? ⟨b, o + 5, none⟩ = some v5 ∧
      w.cell? ⟨b, o + 6, none⟩ = some v6 :=
  ⟨h 0 _ rfl, h 1 _ rfl, h 2 _ rfl, h 3 _ rfl, h 4 _ rfl, h 5 _ rfl, h 6 _ rfl⟩

/-! ### a block that is known whole (a variable of the call's own) -/
def Blk (w : World) (b : Nat) (cs : List Value) (t : TypeId) : Prop := w.heap[b]? = some (.cells cs.toArray t (0, 0))
theorem Blk.new (w : World) (cs : List Value) (t : TypeId) {n : Nat} (hn : n = w.heap.size) : Blk (w.alloc (.cells cs.toArray t)) n cs t := by
  subst hn
  show (w.heap.push _)[w.heap.size]? = _
  simp
theorem Blk.lt {w : World} {b : Nat} {cs : List Value} {t : TypeId} (h : Blk w b cs t) : b < w.heap.size := (Array.getElem?_eq_some_iff.1 h).1
theorem Blk.alloc {w : World} {b : Nat} {cs : List Value} {t : TypeId} (h : Blk w b cs t) (o : Obj) : Blk (w.alloc o) b cs t := (Below.heap_alloc w o b h.lt).trans h
theorem Blk.drew {w : World} {b : Nat} {cs : List Value} {t : TypeId} (h : Blk w b cs t) : Blk w.drew b cs t := h
theorem Blk.drewN {w : World} {b : Nat} {cs : List Value} {t : TypeId} (h : Blk w b cs t) (n : Nat) : Blk (w.drewN n) b cs t := h
theorem Blk.below {B : Nat} {w w' : World} {b : Nat} {cs : List Value} {t : TypeId} (h : Blk w b cs t) (hB : Below B w w') (hb : b < B) : Blk w' b cs t := (hB.block b hb).trans h
theorem Blk.agree {lo hi : Nat} {w w' : World} {b : Nat} {cs : List Value} {t : TypeId} (h : Blk w b cs t) (ha : Agree lo hi w w') (h1 : lo ≤ b) (h2 : b < hi) : Blk w' b cs t := (ha b h1 h2).trans h
theorem Blk.grown {w w' : World} {b : Nat} {cs : List Value} {t : TypeId} {row : Option Nat} (h : Blk w b cs t) (hg : w.grownBy w' row) (hr : row ≠ some b) : Blk w' b cs t := (hg.block b h.lt (fun e => hr e.symm)).trans h
theorem Blk.cells {w : World} {b : Nat} {cs : List Value} {t : TypeId} (h : Blk w b cs t) : CellsAt w b 0 cs := by
  intro j v e
  unfold Blk at h
  simp only [World.cell?, h]
  simpa using e
theorem Blk.free {w : World} {b : Nat} {cs : List Value} {t : TypeId} (h : Blk w b cs t) (i : Nat) : w.frozen? ⟨b, i, none⟩ = false := by
  unfold Blk at h
  simp [World.frozen?, h]
theorem Blk.set {w : World} {b : Nat} {cs : List Value} {t : TypeId} (h : Blk w b cs t) (i : Nat) (v : Value) : Blk (w.setCell ⟨b, i, none⟩ v) b (cs.set i v) t := by
  unfold Blk at *
  simp [World.setCell, Array.getElem?_modify, h]
theorem Blk.other {w : World} {b : Nat} {cs : List Value} {t : TypeId} (h : Blk w b cs t) {p : Addr} (hp : b ≠ p.block) (v : Value) : Blk (w.setCell p v) b cs t := (Below.heap_setCell w p v b hp).trans h

/-! ### results that lie in memory -/
theorem CellsAt.runVar {P : Program} {w : World} {b o : Nat} {cs : List Value} {t : TypeId} (h : CellsAt w b o cs) (hA : ∀ w, (isAgg t).run P w = .ok true w) (hS : ∀ w, (sizeOf t).run P w = .ok cs.length w) :
    (loadVar t ⟨b, o, none⟩).run P w = .ok (.agg cs.toArray) w := by
  have hl := run_loadCells_list (P := P) w ⟨b, o, none⟩ cs (fun j v e => by rw [Addr.add_lit]; exact h j v e)
  simp [Go.loadVar, hA, hS, hl]
theorem CellsAt.runVar1 {P : Program} {w : World} {b o : Nat} {v : Value} {t : TypeId} (h : CellsAt w b o [v]) (hA : ∀ w, (isAgg t).run P w = .ok false w) : (loadVar t ⟨b, o, none⟩).run P w = .ok v w := by
  have := h.c1
  simp [Go.loadVar, hA, load, Sem.run, this]
theorem ret_cell_tmp {P : Program} {fn : Func} {R : Ending → World → Prop} {a : Act} {w : World} {t u : Tmp} {ty : TypeId} {b : Nat} {v1 v2 : Value} (h : fn.results = #[.cell t ty, .tmp u]) (ht : a.tmps.getD t undef = .pointer (some ⟨b, 0, none⟩))
    (hc : (loadVar ty ⟨b, 0, none⟩).run P w = .ok v1 w) (hu : a.tmps.getD u undef = v2) (hd : a.defers = []) (hR : R (.returned (.tuple #[v1, v2])) w) : bodyPost P fn R .ret a w := by
  refine bodyPost_ret (v := .tuple #[v1, v2]) ?_ hd hR
  rw [results_cell_tmp h, ht, hu]
  simp [asAddr, Result.andThen, hc]
theorem ret_cell {P : Program} {fn : Func} {R : Ending → World → Prop} {a : Act} {w : World} {t : Tmp} {ty : TypeId} {b : Nat} {v1 : Value} (h : fn.results = #[.cell t ty]) (ht : a.tmps.getD t undef = .pointer (some ⟨b, 0, none⟩))
    (hc : (loadVar ty ⟨b, 0, none⟩).run P w = .ok v1 w) (hd : a.defers = []) (hR : R (.returned v1) w) : bodyPost P fn R .ret a w := by
  refine bodyPost_ret (v := v1) ?_ hd hR
  simp only [results, h]
  have ht' : (a.tmps[t]?).getD undef = .pointer (some ⟨b, 0, none⟩) := by simpa using ht
  simp [Sem.run_bind, Result.andThen, ht', asAddr, hc]

/-! ### elements, and slices of them -/
/-- Cells say x; all that they lead to lies in the blocks from lo on, ahead of hi. -/
abbrev El (α : Type) := Nat → Nat → World → List Value → α → Prop
/-- Elements that lead nowhere. -/
def flat {α : Type} (enc : α → List Value) : El α := fun _ _ _ cs x => cs = enc x
structure Loc {α : Type} (E : El α) : Prop where
  agree : ∀ {lo hi : Nat} {w w' : World} {cs : List Value} {x : α}, E lo hi w cs x → Agree lo hi w w' → E lo hi w' cs x
  mono : ∀ {lo hi lo' hi' : Nat} {w : World} {cs : List Value} {x : α}, E lo hi w cs x → lo' ≤ lo → hi ≤ hi' → E lo' hi' w cs x
theorem flat_loc {α : Type} (enc : α → List Value) : Loc (flat enc) := ⟨fun h _ => h, fun h _ _ => h⟩

def Sl {α : Type} (E : El α) (size lo hi : Nat) (w : World) (v : Value) (xs : List α) : Prop :=
  ∃ ao cap, v = .slice ao xs.length cap ∧ xs.length ≤ cap ∧ cap ≤ maxLen ∧ (ao = none → cap = 0) ∧
    (xs ≠ [] → ∃ b off, ao = some ⟨b, off, none⟩ ∧ lo ≤ b ∧ b < hi ∧ ∀ (k : Nat) (h : k < xs.length), ∃ cs, cs.length = size ∧ CellsAt w b (off + k * size) cs ∧ E lo hi w cs xs[k])

section
variable {α : Type} {E : El α} {size lo hi : Nat} {w w' : World} {v : Value} {xs : List α}
theorem Sl.agree (h : Sl E size lo hi w v xs) (hE : Loc E) (ha : Agree lo hi w w') : Sl E size lo hi w' v xs := by
  obtain ⟨ao, cap, h1, h2, h3, h4, h5⟩ := h
  refine ⟨ao, cap, h1, h2, h3, h4, fun hne => ?_⟩
  obtain ⟨b, off, e, k1, k2, k3⟩ := h5 hne
  refine ⟨b, off, e, k1, k2, fun k hk => ?_⟩
  obtain ⟨cs, c1, c2, c3⟩ := k3 k hk
  exact ⟨cs, c1, c2.agree ha k1 k2, hE.agree c3 ha⟩
theorem Sl.mono {lo' hi' : Nat} (h : Sl E size lo hi w v xs) (hE : Loc E) (h1 : lo' ≤ lo) (h2 : hi ≤ hi') : Sl E size lo' hi' w v xs := by
  obtain ⟨ao, cap, k1, k2, k3, k4, k5⟩ := h
  refine ⟨ao, cap, k1, k2, k3, k4, fun hne => ?_⟩
  obtain ⟨b, off, e, m1, m2, m3⟩ := k5 hne
  refine ⟨b, off, e, by omega, by omega, fun k hk => ?_⟩
  obtain ⟨cs, c1, c2, c3⟩ := m3 k hk
  exact ⟨cs, c1, c2, hE.mono c3 h1 h2⟩
theorem Sl.below {B : Nat} (h : Sl E size lo hi w v xs) (hE : Loc E) (hB : Below B w w') (hh : hi ≤ B) : Sl E size lo hi w' v xs := h.agree hE (.below hB hh)
theorem Sl.nil (E : El α) (size lo hi : Nat) (w : World) : Sl E size lo hi w (.slice none 0 0) [] := ⟨none, 0, rfl, Nat.le_refl _, by simp [maxLen], fun _ => rfl, fun h => absurd rfl h⟩
theorem Sl.empty (E : El α) (size lo hi : Nat) (w : World) (ao : Option Addr) (cap : Nat) (hc : cap ≤ maxLen) (hn : ao = none → cap = 0) : Sl E size lo hi w (.slice ao 0 cap) [] :=
  ⟨ao, cap, rfl, Nat.zero_le _, hc, hn, fun h => absurd rfl h⟩
theorem Sl.len (h : Sl E size lo hi w v xs) : xs.length ≤ 9223372036854775807 := by
  obtain ⟨ao, cap, _, h2, h3, _⟩ := h
  simp only [maxLen] at h3
  omega
/-- The slice's value, and, as soon as an index is at hand, its address and the element's cells. -/
theorem Sl.form (h : Sl E size lo hi w v xs) : ∃ ao cap, v = .slice ao xs.length cap ∧ xs.length ≤ cap ∧ cap ≤ 9223372036854775807 ∧ (ao = none → cap = 0) ∧
    ∀ (k : Nat) (_ : k < xs.length), ∃ b off, ao = some ⟨b, off, none⟩ ∧ lo ≤ b ∧ b < hi ∧ ∀ (k : Nat) (h : k < xs.length), ∃ cs, cs.length = size ∧ CellsAt w b (off + k * size) cs ∧ E lo hi w cs xs[k] := by
  obtain ⟨ao, cap, h1, h2, h3, h4, h5⟩ := h
  exact ⟨ao, cap, h1, h2, by simpa [maxLen] using h3, h4, fun k hk => h5 (by intro e; subst e; simp at hk)⟩
/-- A piece of a slice that is not empty: 'v[i:i+n]'. -/
theorem Sl.piece {b off cap : Nat} (hc : ∀ (k : Nat) (h : k < xs.length), ∃ cs, cs.length = size ∧ CellsAt w b (off + k * size) cs ∧ E lo hi w cs xs[k]) (h1 : lo ≤ b) (h2 : b < hi) (i n c : Nat) (hn : i + n ≤ xs.length) (hnc : n ≤ c) (hcm : c ≤ maxLen) :
    Sl E size lo hi w (.slice (some ⟨b, off + i * size, none⟩) n c) ((xs.drop i).take n) := by
  have hl : ((xs.drop i).take n).length = n := by rw [List.length_take, List.length_drop]; omega
  refine ⟨_, c, by rw [hl], by omega, hcm, (fun h => by cases h), fun _ => ⟨b, _, rfl, h1, h2, fun k hk => ?_⟩⟩
  rw [hl] at hk
  obtain ⟨cs, k1, k2, k3⟩ := hc (i + k) (by omega)
  refine ⟨cs, k1, ?_, by simpa using k3⟩
  rw [show off + i * size + k * size = off + (i + k) * size by rw [Nat.add_mul, Nat.add_assoc]]
  exact k2
/-- Empty or not. -/
theorem Sl.cases (h : Sl E size lo hi w v xs) : (xs = [] ∧ ∃ ao cap, v = .slice ao 0 cap ∧ cap ≤ 9223372036854775807 ∧ (ao = none → cap = 0)) ∨
    (0 < xs.length ∧ ∃ b off cap, v = .slice (some ⟨b, off, none⟩) xs.length cap ∧ xs.length ≤ cap ∧ cap ≤ 9223372036854775807 ∧ lo ≤ b ∧ b < hi ∧
      ∀ (k : Nat) (h : k < xs.length), ∃ cs, cs.length = size ∧ CellsAt w b (off + k * size) cs ∧ E lo hi w cs xs[k]) := by
  obtain ⟨ao, cap, h1, h2, h3, h4, h5⟩ := h
  have h3' : cap ≤ 9223372036854775807 := by simpa [maxLen] using h3
  cases hx : xs with
  | nil => subst hx; exact .inl ⟨rfl, ao, cap, h1, h3', h4⟩
  | cons x r =>
    obtain ⟨b, off, rfl, k1, k2, k3⟩ := h5 (by simp [hx])
    subst hx
    exact .inr ⟨by simp, b, off, cap, h1, h2, h3', k1, k2, k3⟩
end

/-- An owned row (of the kit's laws on append) as a slice of flat elements. -/
theorem Sl.ofOwn {α : Type} {enc : α → List Value} {size lo : Nat} {w : World} {e : TypeId} {v : Value} {xs : List α} (henc : ∀ x, (enc x).length = size)
    (h : w.ownsRow lo e size v xs.length (xs.flatMap enc)) : Sl (flat enc) size lo w.heap.size w v xs := by
  have hlen : ∀ (l : List α), (l.flatMap enc).length = l.length * size := by
    intro l; induction l with
    | nil => simp
    | cons x r ih => simp [henc, ih, Nat.add_mul, Nat.add_comm]
  rcases h.2 with ⟨rfl, hn⟩ | ⟨g, cap, cur, rfl, hb, hg, hnc, hcm, hcs, htake⟩
  · have : xs = [] := List.eq_nil_of_length_eq_zero hn
    subst this
    exact Sl.nil _ _ _ _ _
  · refine ⟨_, cap, rfl, hnc, hcm, (fun h => by cases h), fun _ => ⟨g, 0, rfl, hb, (Array.getElem?_eq_some_iff.1 hg).1, fun k hk => ⟨enc xs[k], henc _, ?_, rfl⟩⟩⟩
    intro j u hu
    have hj : j < size := by have := (List.getElem?_eq_some_iff.1 hu).1; rwa [henc] at this
    have hx : xs = xs.take k ++ xs[k] :: xs.drop (k + 1) := by rw [← List.drop_eq_getElem_cons hk, List.take_append_drop]
    have h1 : (xs.flatMap enc)[k * size + j]? = some u := by
      have hf : xs.flatMap enc = (xs.take k).flatMap enc ++ (enc xs[k] ++ (xs.drop (k + 1)).flatMap enc) := by
        exact (congrArg (List.flatMap enc) hx).trans (by rw [List.flatMap_append, List.flatMap_cons])
      rw [hf, List.getElem?_append_right (by rw [hlen, List.length_take]; rw [Nat.min_eq_left (by omega)]; omega), hlen, List.length_take, Nat.min_eq_left (by omega), show k * size + j - k * size = j by omega, List.getElem?_append_left (by rw [henc]; exact hj)]
      exact hu
    simp only [World.cell?, hg]
    rw [← htake, List.getElem?_take] at h1
    split at h1
    · simpa using h1
    · cases h1

/-! ### bytes and texts -/
def bE (c : UInt8) : List Value := [.int .u8 c.toNat]
abbrev Bytes := Sl (flat bE) 1
theorem bE_loc : Loc (flat bE) := flat_loc _
theorem flatMap_bE (l : List UInt8) : l.flatMap bE = l.map fun c => Value.int .u8 c.toNat := by
  induction l with
  | nil => rfl
  | cons x r ih => simp [bE, ih]

section
variable {P : Program} {w : World}
/-- '[]byte(s)': a new row. -/
theorem run_toBytes (l : List UInt8) (src dst e : TypeId) (hs : P.underlying src = some .string) (hd : P.underlying dst = some (.slice e)) (he : P.underlying e = some (.int .u8)) (hl : l.length ≤ 9223372036854775807) :
    ∃ cap w', (convert src dst (.string ⟨l.toArray⟩)).run P w = .ok (.slice (some ⟨w.heap.size, 0, none⟩) l.length cap) w' ∧ Below w.heap.size w w' ∧ w'.heap.size = w.heap.size + 1 ∧ l.length ≤ cap ∧ cap ≤ maxLen ∧
      CellsAt w' w.heap.size 0 (l.map fun c => .int .u8 c.toNat) := by
  refine ⟨grownCap w l.length 0 e, Lib.bytesWorld w e ⟨l.toArray⟩, Lib.run_convert_string_bytes w src dst e ⟨l.toArray⟩ hs hd he, ⟨rfl, rfl, rfl, ?_, fun k hk => Lib.bytesWorld_at_old _ _ _ _ hk⟩, Lib.bytesWorld_size _ _ _,
    grownCap_ge _ _ _ _, grownCap_le_maxLen _ _ _ _ (by simpa [maxLen] using hl), ?_⟩
  · rw [Lib.bytesWorld_size]; omega
  · intro j v hj
    have hjl : j < l.length := by have := (List.getElem?_eq_some_iff.1 hj).1; simpa using this
    rw [Nat.zero_add, Lib.bytesWorld_cell _ _ _ _ hjl]
    simpa [List.getD, hjl] using hj
/-- 'string(b)'. -/
theorem run_ofBytes {lo hi : Nat} {v : Value} {l : List UInt8} (h : Bytes lo hi w v l) (src dst e : TypeId) (hs : P.underlying src = some (.slice e)) (he : P.underlying e = some (.int .u8)) (hd : P.underlying dst = some .string) :
    (convert src dst v).run P w = .ok (.string ⟨l.toArray⟩) w := by
  rcases h.cases with ⟨rfl, ao, cap, rfl, -, hn⟩ | ⟨hp, b, off, cap, rfl, -, -, -, -, hc⟩
  · cases ao with
    | none => exact run_convert_bytes_nil w src e hs he 0 cap dst hd
    | some a => exact run_convert_bytes_back w src dst e a cap [] hs he hd (fun j hj => absurd hj (by simp))
  · refine run_convert_bytes_back w src dst e _ cap l hs he hd fun j hj => ?_
    obtain ⟨cs, -, h1, rfl⟩ := hc j hj
    rw [Addr.add_lit]
    have := h1.c1
    rw [Nat.mul_one] at this
    exact this

/-- append onto an owned row, whatever is appended. -/
theorem run_app (base : Nat) (t tx ty e : TypeId) (i : TypeInfo) (z : Value) (size bytes : Nat) (ht : P.underlying t = some (.slice e)) (hi : P.info? e = some i) (hz : i.zero = some z)
    (hsize : i.size = size) (hby : i.bytes = bytes) (hzs : z.cells.size = size) (v : Value) (n : Nat) (xs : List Value) (hown : w.ownsRow base e size v n xs)
    (x : Value) (m : Nat) (news : List Value) (hs : Src P size tx x m news w) (h63 : n + m ≤ maxLen) (hbytes : (n + m) * bytes ≤ 140737488355328) (hbase : base ≤ w.heap.size) :
    ∃ v' w', (Builtin.append_ #[t, tx] ty #[v, x]).run P w = .ok v' w' ∧ w'.ownsRow base e size v' (n + m) (xs ++ news) ∧ w.grownBy w' v.ownBlock ∧ (v'.ownBlock = v.ownBlock ∨ v'.ownBlock = some w.heap.size) := by
  subst hsize
  subst hby
  have hsmall : n + m ≤ 9223372036854775807 := by simp only [maxLen] at h63; omega
  have hlen : (xs ++ news).length = (n + m) * i.size := by rw [List.length_append, hown.1, hs.newsLen, Nat.add_mul]
  have grown : ∀ (old : Nat), old < n + m → ∀ (row : Option Nat),
      (w.drew.alloc (.cells ((xs ++ news).toArray ++ Builtin.zeroCells z.cells (grownCap w (n + m) old e - (n + m))) e)).ownsRow base e i.size
        (.slice (some ⟨w.heap.size, 0, none⟩) (n + m) (grownCap w (n + m) old e)) (n + m) (xs ++ news) ∧
      w.grownBy (w.drew.alloc (.cells ((xs ++ news).toArray ++ Builtin.zeroCells z.cells (grownCap w (n + m) old e - (n + m))) e)) row := by
    intro old ho row
    have hge := grownCap_ge w (n + m) old e
    have hcm : grownCap w (n + m) old e ≤ maxLen := grownCap_le_maxLen w (n + m) old e h63
    refine ⟨⟨hlen, .inr ⟨w.heap.size, _, _, rfl, hbase, heap_alloc_new w.drew _, hge, hcm, ?_, ?_⟩⟩, ⟨rfl, rfl, rfl, by simp, fun k hk _ => Below.heap_alloc w.drew _ k hk⟩⟩
    · simp only [Array.size_append, List.size_toArray, size_zeroCells, hzs, hlen, ← Nat.add_mul]
      congr 1
      omega
    · simp only [Array.toList_append]
      rw [← hlen]
      exact List.take_left
  rcases hown.2 with ⟨rfl, rfl⟩ | ⟨g, cap, cur, rfl, hbg, hg, hnc, hcm, hcs, htake⟩
  · have hx : xs = [] := List.eq_nil_of_length_eq_zero (by simpa using hown.1)
    subst hx
    by_cases hm : m = 0
    · subst hm
      have hn : news = [] := List.eq_nil_of_length_eq_zero (by simpa using hs.newsLen)
      subst hn
      refine ⟨.slice none 0 0, w, ?_, World.ownsRow_nil w base e i.size, ⟨rfl, rfl, rfl, Nat.le_refl _, fun _ _ _ => rfl⟩, .inl rfl⟩
      rcases hs.kind with ⟨e', hk⟩ | hk <;> simp [Builtin.append_, run_underlying ht, run_underlying hk, sizeOf, typeInfo, hi, hs.len, hs.cells]
    · have hr := run_append_grow_src (P := P) w t tx ty e i z ht hi hz none 0 0 [] (run_firstCells_none w.drew i.size 0 0 0) x m news hs (by omega) (by omega)
        (growslice_fits (by omega) hbytes)
      have hgr := grown 0 (by omega) (Value.ownBlock (.slice none 0 0))
      exact ⟨_, _, hr, hgr.1, hgr.2, .inr rfl⟩
  · by_cases hroom : n + m ≤ cap
    · have hfit : n * i.size + news.length ≤ cur.size := by rw [hs.newsLen, hcs, ← Nat.add_mul]; exact Nat.mul_le_mul_right _ hroom
      have hst := run_storeCells_at P g (n * i.size) e news 0 cur w hg (by simpa using hfit) hs.one
      simp only [Nat.add_zero] at hst
      have hr : (Builtin.append_ #[t, tx] ty #[.slice (some ⟨g, 0, none⟩) n cap, x]).run P w =
          .ok (.slice (some ⟨g, 0, none⟩) (n + m) cap) (w.setRow g (cur.toList.take (n * i.size) ++ news ++ cur.toList.drop (n * i.size + news.length)).toArray) := by
        rcases hs.kind with ⟨e', hk⟩ | hk <;> simp [Builtin.append_, run_underlying ht, run_underlying hk, sizeOf, typeInfo, hi, hs.len, hroom, hs.cells, Addr.add_lit, hst]
      refine ⟨_, _, hr, ⟨hlen, .inr ⟨g, cap, _, rfl, hbg, setRow_heap w g cur _ e _ hg, hroom, hcm, ?_, ?_⟩⟩, ⟨rfl, rfl, rfl, by simp, fun k _ hk => setRow_other w g k _ (fun e => hk (by simp [Value.ownBlock, e]))⟩, .inl rfl⟩
      · simp only [List.size_toArray, List.length_append, List.length_take, List.length_drop, Array.length_toList]
        omega
      · rw [htake, ← hlen]
        exact List.take_left
    · have holds : ∀ j u, xs[j]? = some u → w.cell? ((⟨g, 0, none⟩ : Addr).add j) = some u := hown.cells (g := g) rfl
      have hr := run_append_grow_src (P := P) w t tx ty e i z ht hi hz (some ⟨g, 0, none⟩) n cap xs (run_firstCells_some w.drew i.size n ⟨g, 0, none⟩ n cap xs hown.1 (by simpa using holds)) x m news hs (by omega) (by omega)
        (growslice_fits (by omega) hbytes)
      have hgr := grown cap (by omega) (Value.ownBlock (.slice (some ⟨g, 0, none⟩) n cap))
      exact ⟨_, _, hr, hgr.1, hgr.2, .inr rfl⟩
/-- The world behind appends onto b: all old blocks but b's own row are as they were; what came of b lies in that row, or in a new one. -/
structure Appended (w : World) (b : Value) (w' : World) (v' : Value) : Prop where
  grown : w.grownBy w' b.ownBlock
  moved : v'.ownBlock = b.ownBlock ∨ ∃ k, v'.ownBlock = some k ∧ w.heap.size ≤ k
theorem Appended.refl (w : World) (b : Value) : Appended w b w b := ⟨⟨rfl, rfl, rfl, Nat.le_refl _, fun _ _ _ => rfl⟩, .inl rfl⟩
theorem Appended.trans {w1 w2 w3 : World} {a b c : Value} (h : Appended w1 a w2 b) (k : Appended w2 b w3 c) : Appended w1 a w3 c := by
  have hs := h.grown.size
  refine ⟨⟨k.grown.os.trans h.grown.os, k.grown.tape.trans h.grown.tape, k.grown.output.trans h.grown.output, Nat.le_trans hs k.grown.size, fun i hi hne => ?_⟩, ?_⟩
  · refine (k.grown.block i (by omega) ?_).trans (h.grown.block i hi hne)
    rcases h.moved with e | ⟨m, e, hm⟩
    · rw [e]; exact hne
    · rw [e]; intro e2; injection e2 with e2; omega
  · rcases k.moved with e | ⟨m, e, hm⟩
    · rw [e]; exact h.moved
    · exact .inr ⟨m, e, by omega⟩
theorem Appended.step {w1 w2 : World} (b : Value) (h : Below w1.heap.size w1 w2) : Appended w1 b w2 b := ⟨⟨h.os, h.tape, h.output, h.size, fun k hk _ => h.block k hk⟩, .inl rfl⟩
theorem Appended.blk {w w' : World} {a a' : Value} (h : Appended w a w' a') {b : Nat} {cs : List Value} {t : TypeId} (hb : Blk w b cs t) (hne : a.ownBlock ≠ some b) : Blk w' b cs t := hb.grown h.grown hne
/-- A block that is not a's is not what came of a, either. -/
theorem Appended.apart {w w' : World} {a a' : Value} (h : Appended w a w' a') {b : Nat} (hb : b < w.heap.size) (hne : a.ownBlock ≠ some b) : a'.ownBlock ≠ some b := by
  rcases h.moved with e | ⟨k, e, hk⟩
  · rw [e]; exact hne
  · rw [e]; intro e2; injection e2 with e2; omega
theorem Appended.below {w w' : World} {a a' : Value} (h : Appended w a w' a') {B : Nat} (hB : B ≤ w.heap.size) (ha : ∀ k, a.ownBlock = some k → B ≤ k) : Below B w w' := (Below.refl B w).grown h.grown hB ha
theorem Appended.agree {w w' : World} {a a' : Value} (h : Appended w a w' a') {lo hi : Nat} (hh : hi ≤ w.heap.size) (ha : ∀ k, a.ownBlock = some k → k < lo ∨ hi ≤ k) : Agree lo hi w w' := .grown h.grown hh ha

theorem CellsAt.appended {w w' : World} {b o : Nat} {cs : List Value} {a a' : Value} (h : CellsAt w b o cs) (ha : Appended w a w' a') (hb : b < w.heap.size) (hne : a.ownBlock ≠ some b) : CellsAt w' b o cs :=
  h.agree (lo := b) (hi := b + 1) (ha.agree (by omega) (fun k e => by
    have : k ≠ b := fun e2 => hne (e2 ▸ e)
    omega)) (Nat.le_refl _) (by omega)
/-- v is a row of the call's own, in a block from lo on, whose elements are xs. -/
def Own {α : Type} (enc : α → List Value) (e : TypeId) (size lo : Nat) (w : World) (v : Value) (xs : List α) : Prop := w.ownsRow lo e size v xs.length (xs.flatMap enc)
theorem Own.nil {α : Type} (enc : α → List Value) (e : TypeId) (size lo : Nat) (w : World) : Own enc e size lo w (.slice none 0 0) ([] : List α) := World.ownsRow_nil w lo e size
theorem Own.made {α : Type} (enc : α → List Value) (e : TypeId) (size lo : Nat) (w : World) {n : Nat} (hn : n = w.heap.size) (hlo : lo ≤ w.heap.size) : Own enc e size lo (w.alloc (.cells #[] e)) (.slice (some ⟨n, 0, none⟩) 0 0) ([] : List α) := by
  subst hn
  exact World.ownsRow_lit w #[] 0 hlo (Nat.zero_le _) (by simp)
/-- An own row that is not empty. -/
theorem Own.form {α : Type} {enc : α → List Value} {e : TypeId} {size lo : Nat} {w : World} {v : Value} {xs : List α} (h : Own enc e size lo w v xs) (hx : xs ≠ []) :
    ∃ g cap, v = .slice (some ⟨g, 0, none⟩) xs.length cap ∧ lo ≤ g ∧ g < w.heap.size ∧ xs.length ≤ cap ∧ cap ≤ 9223372036854775807 ∧ CellsAt w g 0 (xs.flatMap enc) ∧ ∀ i, w.frozen? ⟨g, i, none⟩ = false := by
  rcases h.2 with ⟨-, hn⟩ | ⟨g, cap, cur, rfl, hb, hg, hnc, hcm, hcs, htake⟩
  · exact absurd (List.eq_nil_of_length_eq_zero hn) hx
  · refine ⟨g, cap, rfl, hb, (Array.getElem?_eq_some_iff.1 hg).1, hnc, by simpa [maxLen] using hcm, fun j u hu => ?_, fun i => by simp [World.frozen?, hg]⟩
    rw [← htake, List.getElem?_take] at hu
    rw [Nat.zero_add]
    simp only [World.cell?, hg]
    split at hu
    · simpa using hu
    · cases hu
theorem Own.lt {α : Type} {enc : α → List Value} {e : TypeId} {size lo : Nat} {w : World} {v : Value} {xs : List α} (h : Own enc e size lo w v xs) : ∀ k, v.ownBlock = some k → lo ≤ k ∧ k < w.heap.size := World.ownsRow.lt h
theorem Own.app {α : Type} {enc : α → List Value} {e : TypeId} {size lo : Nat} {v : Value} {xs ys : List α} (h : Own enc e size lo w v xs) (t tx ty : TypeId) (i : TypeInfo) (z : Value) (bytes : Nat) (ht : P.underlying t = some (.slice e)) (hi : P.info? e = some i)
    (hz : i.zero = some z) (hsize : i.size = size) (hby : i.bytes = bytes) (hzs : z.cells.size = size) {x : Value} (hs : Src P size tx x ys.length (ys.flatMap enc) w) (hb : (xs.length + ys.length) * bytes ≤ 140737488355328) (hb1 : 1 ≤ bytes) (hlo : lo ≤ w.heap.size) :
    ∃ v' w', (Builtin.append_ #[t, tx] ty #[v, x]).run P w = .ok v' w' ∧ Own enc e size lo w' v' (xs ++ ys) ∧ Appended w v w' v' := by
  have h63 : xs.length + ys.length ≤ maxLen := by
    have : (xs.length + ys.length) * 1 ≤ (xs.length + ys.length) * bytes := Nat.mul_le_mul_left _ hb1
    simp only [maxLen]; omega
  obtain ⟨v', w', hr, h1, h2, h3⟩ := run_app lo t tx ty e i z size bytes ht hi hz hsize hby hzs v xs.length _ h x ys.length _ hs h63 hb hlo
  refine ⟨v', w', hr, ?_, h2, ?_⟩
  · unfold Own; rw [List.length_append, List.flatMap_append]; exact h1
  · rcases h3 with h3 | h3
    · exact .inl h3
    · exact .inr ⟨_, h3, Nat.le_refl _⟩
theorem Own.kept {α : Type} {enc : α → List Value} {e : TypeId} {size lo : Nat} {w w' : World} {v : Value} {xs : List α} (h : Own enc e size lo w v xs) (hB : Below w.heap.size w w') : Own enc e size lo w' v xs :=
  World.ownsRow.kept (row := none) h ⟨hB.os, hB.tape, hB.output, hB.size, fun k hk _ => hB.block k hk⟩ (by cases v.ownBlock <;> simp)
theorem Own.setOther {α : Type} {enc : α → List Value} {e : TypeId} {size lo : Nat} {w : World} {v : Value} {xs : List α} (h : Own enc e size lo w v xs) {p : Addr} (hp : v.ownBlock ≠ some p.block) (u : Value) : Own enc e size lo (w.setCell p u) v xs := by
  refine World.ownsRow.kept (row := some p.block) h ⟨rfl, rfl, rfl, by simp, fun k _ hk => Below.heap_setCell _ _ _ _ (fun e => hk (by rw [e]))⟩ (.inr hp)

/-- The walk stops ahead of an append: 'go_wp2_with (at_builtin; refine AtApp.of ?_)'. -/
def AtApp (p : Prop) : Prop := p
theorem AtApp.of {p : Prop} (h : AtApp p) : p := h
theorem AtApp.mk {p : Prop} (h : p) : AtApp p := h
theorem AtApp.go {ops : Array Oper} {rest : List Oper} {o : Oper} {a : Act} {Q : Exit → Act → World → Prop} {s x : Operand} {t tx : TypeId} {v' : Value} {w' : World} {sv xv : Value}
    (hrun : (Builtin.append_ #[t, tx] o.type #[sv, xv]).run P w = .ok v' w') (hgd : o.guard = none) (ho : o.op = .call { callee := .builtin .append, args := #[s, x], argTypes := #[t, tx] }) (hs : a.eval s = sv) (hx : a.eval x = xv)
    (hK : wpList P ops Q rest (a.put o.dst v') w') : AtApp (wpList P ops Q (o :: rest) a w) := by
  refine wpList_plain hgd fun K hK' => ?_
  unfold Oper.wp execOp
  simp only [ho, resolve, invoke, builtin, Sem.run_bind, Sem.run_pure, Result.andThen_ok, List.map_toArray, List.map_cons, List.map_nil, hs, hx, hrun]
  exact hK' _ _ hK

/-- A slice of flat elements, as what is appended. -/
theorem Src.ofSl {α : Type} {enc : α → List Value} {size lo hi : Nat} {v : Value} {xs : List α} (h : Sl (flat enc) size lo hi w v xs) (henc : ∀ x, (enc x).length = size) (hone : ∀ x, ∀ u ∈ enc x, u.oneCell' = true)
    {tx e' : TypeId} (hk : P.underlying tx = some (.slice e')) : Src P size tx v xs.length (xs.flatMap enc) w := by
  have hlen : ∀ (l : List α), (l.flatMap enc).length = l.length * size := by
    intro l; induction l with
    | nil => simp
    | cons x r ih => simp [henc, ih, Nat.add_mul, Nat.add_comm]
  rcases h.cases with ⟨rfl, ao, cap, rfl, -, hn⟩ | ⟨hp, b, off, cap, rfl, -, -, -, -, hc⟩
  · cases ao with
    | none => obtain rfl := hn rfl; exact Src.ofNil w hk 0
    | some a => exact Src.ofSlice w hk a 0 cap [] (by simp) (fun j u hu => by cases hu) (fun u hu => by cases hu)
  · refine Src.ofSlice w hk _ xs.length cap (xs.flatMap enc) (hlen xs) (fun j u hu => ?_) (fun u hu => ?_)
    · have hj : j < xs.length * size := by have := (List.getElem?_eq_some_iff.1 hu).1; rwa [hlen] at this
      have hs : 0 < size := by
        rcases Nat.eq_zero_or_pos size with h0 | h0
        · rw [h0] at hj; simp at hj
        · exact h0
      have hkl : j / size < xs.length := Nat.div_lt_of_lt_mul (by rw [Nat.mul_comm]; exact hj)
      obtain ⟨cs, -, h1, rfl⟩ := hc (j / size) hkl
      have hx : xs = xs.take (j / size) ++ xs[j / size] :: xs.drop (j / size + 1) := by rw [← List.drop_eq_getElem_cons hkl, List.take_append_drop]
      have hf : xs.flatMap enc = (xs.take (j / size)).flatMap enc ++ (enc xs[j / size] ++ (xs.drop (j / size + 1)).flatMap enc) :=
        (congrArg (List.flatMap enc) hx).trans (by rw [List.flatMap_append, List.flatMap_cons])
      have hdm := Nat.div_add_mod j size
      have hml := Nat.mod_lt j hs
      have hcm : size * (j / size) = j / size * size := Nat.mul_comm _ _
      rw [hf, List.getElem?_append_right (by rw [hlen, List.length_take]; rw [Nat.min_eq_left (by omega)]; omega), hlen, List.length_take, Nat.min_eq_left (by omega), show j - j / size * size = j % size by omega, List.getElem?_append_left (by rw [henc]; exact hml)] at hu
      have := h1 _ _ hu
      rw [Addr.add_lit]
      rwa [show off + j / size * size + j % size = off + j by omega] at this
    · obtain ⟨x, -, hx⟩ := List.mem_flatMap.1 hu
      exact hone x u hx
end

theorem Bytes.ofCells {w : World} {b c lo hi : Nat} {l : List UInt8} (h : CellsAt w b 0 (l.flatMap bE)) (h1 : lo ≤ b) (h2 : b < hi) (hc : l.length ≤ c) (hc2 : c ≤ maxLen) : Bytes lo hi w (.slice (some ⟨b, 0, none⟩) l.length c) l := by
  refine ⟨_, c, rfl, hc, hc2, (fun h => by cases h), fun _ => ⟨b, 0, rfl, h1, h2, fun k hk => ⟨bE l[k], rfl, fun j v e => ?_, rfl⟩⟩⟩
  have hj : j = 0 := by have := (List.getElem?_eq_some_iff.1 e).1; simp [bE] at this; exact this
  subst hj
  have := h k (.int .u8 l[k].toNat) (by rw [flatMap_bE]; simp [hk])
  simp only [bE, List.getElem?_cons_zero, Option.some.injEq] at e
  subst e
  simpa using this

theorem drewN {B : Nat} {a w : World} (h : Below B a w) (n : Nat) : Below B a (w.drewN n) := h.trans ⟨rfl, rfl, rfl, Nat.le_refl _, fun _ _ => rfl⟩
theorem any_take_succ {α : Type} (l : List α) (p : α → Bool) (k : Nat) (h : k < l.length) : (l.take (k + 1)).any p = ((l.take k).any p || p l[k]) := by
  rw [List.take_succ_eq_append_getElem h, List.any_append]; simp
theorem all_take_succ {α : Type} (l : List α) (p : α → Bool) (k : Nat) (h : k < l.length) : (l.take (k + 1)).all p = ((l.take k).all p && p l[k]) := by
  rw [List.take_succ_eq_append_getElem h, List.all_append]; simp
end Go.Proofs.Ytkcpanaojehgiaa
