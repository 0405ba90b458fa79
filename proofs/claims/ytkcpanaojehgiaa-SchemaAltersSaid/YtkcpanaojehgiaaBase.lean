/- Plain lemmas on worlds, cells and slices that the walks of this seat use: no function of the program in sight. -/
import Derived.WalkKit
import Derived.Lib.Hide
import Derived.Deep.AppendSrc
import Derived.Shelf.Abstract
import Derived.Deep.QuietTactic
import Derived.BigQuiet
namespace Go.Proofs.Ytkcpanaojehgiaa
open Go.RowKit

/-! ### worlds that agree on the blocks from lo on, ahead of hi -/
def Agree (lo hi : Nat) (w w' : World) : Prop := ∀ k, lo ≤ k → k < hi → w'.heap[k]? = w.heap[k]?
theorem Agree.refl (lo hi : Nat) (w : World) : Agree lo hi w w := fun _ _ _ => rfl
theorem Agree.trans {lo hi : Nat} {a b c : World} (h : Agree lo hi a b) (k : Agree lo hi b c) : Agree lo hi a c := fun i h1 h2 => (k i h1 h2).trans (h i h1 h2)
theorem Agree.mono {lo hi lo' hi' : Nat} {a b : World} (h : Agree lo hi a b) (h1 : lo ≤ lo') (h2 : hi' ≤ hi) : Agree lo' hi' a b := fun i k1 k2 => h i (by omega) (by omega)
theorem Agree.below {B lo hi : Nat} {w w' : World} (h : Below B w w') (hh : hi ≤ B) : Agree lo hi w w' := fun k _ h2 => h.block k (by omega)
theorem Agree.setCell {lo hi : Nat} (w : World) {p : Addr} (hp : p.block < lo ∨ hi ≤ p.block) (u : Value) : Agree lo hi w (w.setCell p u) :=
  fun k h1 h2 => Below.heap_setCell w p u k (by omega)
theorem Agree.alloc {lo hi : Nat} (w : World) (o : Obj) (hh : hi ≤ w.heap.size) : Agree lo hi w (w.alloc o) := fun k _ h2 => Below.heap_alloc w o k (by omega)
theorem Agree.cell {lo hi : Nat} {w w' : World} (h : Agree lo hi w w') {p : Addr} (h1 : lo ≤ p.block) (h2 : p.block < hi) : w'.cell? p = w.cell? p := World.cell?_of_block (h p.block h1 h2)
theorem Agree.grown {lo hi : Nat} {w w' : World} {row : Option Nat} (hg : w.grownBy w' row) (hh : hi ≤ w.heap.size) (hr : ∀ k, row = some k → k < lo ∨ hi ≤ k) : Agree lo hi w w' :=
  fun k h1 h2 => hg.block k (by omega) (fun e => by have := hr k e.symm; omega)

/-- The end of a walk: what is returned, spelled otherwise. -/
theorem fin {R : Ending → World → Prop} {v v' : Value} {w : World} (h : R (.returned v) w) (hv : v = v') : R (.returned v') w := hv ▸ h

/-! ### cells -/
def CellsAt (w : World) (b o : Nat) (cs : List Value) : Prop := ∀ j v, cs[j]? = some v → w.cell? ⟨b, o + j, none⟩ = some v
theorem CellsAt.agree {lo hi : Nat} {w w' : World} {b o : Nat} {cs : List Value} (h : CellsAt w b o cs) (ha : Agree lo hi w w') (h1 : lo ≤ b) (h2 : b < hi) : CellsAt w' b o cs :=
  fun j v e => (ha.cell (p := ⟨b, o + j, none⟩) h1 h2).trans (h j v e)
theorem CellsAt.new (w : World) (cs : List Value) (t : TypeId) : CellsAt (w.alloc (.cells cs.toArray t)) w.heap.size 0 cs := by
  intro j v e
  rw [Nat.zero_add, World.cell?_alloc_new]
  simpa using e
theorem CellsAt.c1 {w : World} {b o : Nat} {v0 : Value} (h : CellsAt w b o [v0]) : w.cell? ⟨b, o, none⟩ = some v0 := h 0 _ rfl
theorem CellsAt.c2 {w : World} {b o : Nat} {v0 v1 : Value} (h : CellsAt w b o [v0, v1]) : w.cell? ⟨b, o, none⟩ = some v0 ∧ w.cell? ⟨b, o + 1, none⟩ = some v1 := ⟨h 0 _ rfl, h 1 _ rfl⟩
theorem CellsAt.c3 {w : World} {b o : Nat} {v0 v1 v2 : Value} (h : CellsAt w b o [v0, v1, v2]) :
    w.cell? ⟨b, o, none⟩ = some v0 ∧ w.cell? ⟨b, o + 1, none⟩ = some v1 ∧ w.cell? ⟨b, o + 2, none⟩ = some v2 := ⟨h 0 _ rfl, h 1 _ rfl, h 2 _ rfl⟩
theorem CellsAt.c4 {w : World} {b o : Nat} {v0 v1 v2 v3 : Value} (h : CellsAt w b o [v0, v1, v2, v3]) :
    w.cell? ⟨b, o, none⟩ = some v0 ∧ w.cell? ⟨b, o + 1, none⟩ = some v1 ∧ w.cell? ⟨b, o + 2, none⟩ = some v2 ∧ w.cell? ⟨b, o + 3, none⟩ = some v3 := ⟨h 0 _ rfl, h 1 _ rfl, h 2 _ rfl, h 3 _ rfl⟩
theorem CellsAt.c5 {w : World} {b o : Nat} {v0 v1 v2 v3 v4 : Value} (h : CellsAt w b o [v0, v1, v2, v3, v4]) :
    w.cell? ⟨b, o, none⟩ = some v0 ∧ w.cell? ⟨b, o + 1, none⟩ = some v1 ∧ w.cell? ⟨b, o + 2, none⟩ = some v2 ∧ w.cell? ⟨b, o + 3, none⟩ = some v3 ∧ w.cell? ⟨b, o + 4, none⟩ = some v4 :=
  ⟨h 0 _ rfl, h 1 _ rfl, h 2 _ rfl, h 3 _ rfl, h 4 _ rfl⟩
theorem CellsAt.c6 {w : World} {b o : Nat} {v0 v1 v2 v3 v4 v5 : Value} (h : CellsAt w b o [v0, v1, v2, v3, v4, v5]) :
    w.cell? ⟨b, o, none⟩ = some v0 ∧ w.cell? ⟨b, o + 1, none⟩ = some v1 ∧ w.cell? ⟨b, o + 2, none⟩ = some v2 ∧ w.cell? ⟨b, o + 3, none⟩ = some v3 ∧ w.cell? ⟨b, o + 4, none⟩ = some v4 ∧ w.cell? ⟨b, o + 5, none⟩ = some v5 :=
  ⟨h 0 _ rfl, h 1 _ rfl, h 2 _ rfl, h 3 _ rfl, h 4 _ rfl, h 5 _ rfl⟩
theorem CellsAt.c7 {w : World} {b o : Nat} {v0 v1 v2 v3 v4 v5 v6 : Value} (h : CellsAt w b o [v0, v1, v2, v3, v4, v5, v6]) :
    w.cell? ⟨b, o, none⟩ = some v0 ∧ w.cell? ⟨b, o + 1, none⟩ = some v1 ∧ w.cell? ⟨b, o + 2, none⟩ = some v2 ∧ w.cell? ⟨b, o + 3, none⟩ = some v3 ∧ w.cell? ⟨b, o + 4, none⟩ = some v4 ∧ w.cell? ⟨b, o + 5, none⟩ = some v5 ∧
      w.cell? ⟨b, o + 6, none⟩ = some v6 :=
  ⟨h 0 _ rfl, h 1 _ rfl, h 2 _ rfl, h 3 _ rfl, h 4 _ rfl, h 5 _ rfl, h 6 _ rfl⟩

/-! ### elements, and slices of them -/
/-- Cells say x; all that they lead to lies in the blocks from lo on, ahead of hi. -/
abbrev El (α : Type) := Nat → Nat → World → List Value → α → Prop
/-- Elements that lead nowhere. -/
def flat {α : Type} (enc : α → List Value) : El α := fun _ _ _ cs x => cs = enc x
structure Loc {α : Type} (E : El α) : Prop where
  agree : ∀ {lo hi : Nat} {w w' : World} {cs : List Value} {x : α}, E lo hi w cs x → Agree lo hi w w' → E lo hi w' cs x
  mono : ∀ {lo hi lo' hi' : Nat} {w : World} {cs : List Value} {x : α}, E lo hi w cs x → lo' ≤ lo → hi ≤ hi' → E lo' hi' w cs x
theorem flat_loc {α : Type} (enc : α → List Value) : Loc (flat enc) := ⟨fun h _ => h, fun h _ _ => h⟩

def Sl {α : Type} (E : El α) (size lo hi : Nat) (w : World) (v : Value) (xs : List α) : Prop :=
  ∃ ao cap, v = .slice ao xs.length cap ∧ xs.length ≤ cap ∧ cap ≤ maxLen ∧ (ao = none → cap = 0) ∧
    (xs ≠ [] → ∃ b off, ao = some ⟨b, off, none⟩ ∧ lo ≤ b ∧ b < hi ∧ ∀ (k : Nat) (h : k < xs.length), ∃ cs, cs.length = size ∧ CellsAt w b (off + k * size) cs ∧ E lo hi w cs xs[k])

section
variable {α : Type} {E : El α} {size lo hi : Nat} {w w' : World} {v : Value} {xs : List α}
theorem Sl.agree (h : Sl E size lo hi w v xs) (hE : Loc E) (ha : Agree lo hi w w') : Sl E size lo hi w' v xs := by
  obtain ⟨ao, cap, h1, h2, h3, h4, h5⟩ := h
  refine ⟨ao, cap, h1, h2, h3, h4, fun hne => ?_⟩
  obtain ⟨b, off, e, k1, k2, k3⟩ := h5 hne
  refine ⟨b, off, e, k1, k2, fun k hk => ?_⟩
  obtain ⟨cs, c1, c2, c3⟩ := k3 k hk
  exact ⟨cs, c1, c2.agree ha k1 k2, hE.agree c3 ha⟩
theorem Sl.mono {lo' hi' : Nat} (h : Sl E size lo hi w v xs) (hE : Loc E) (h1 : lo' ≤ lo) (h2 : hi ≤ hi') : Sl E size lo' hi' w v xs := by
  obtain ⟨ao, cap, k1, k2, k3, k4, k5⟩ := h
  refine ⟨ao, cap, k1, k2, k3, k4, fun hne => ?_⟩
  obtain ⟨b, off, e, m1, m2, m3⟩ := k5 hne
  refine ⟨b, off, e, by omega, by omega, fun k hk => ?_⟩
  obtain ⟨cs, c1, c2, c3⟩ := m3 k hk
  exact ⟨cs, c1, c2, hE.mono c3 h1 h2⟩
theorem Sl.below {B : Nat} (h : Sl E size lo hi w v xs) (hE : Loc E) (hB : Below B w w') (hh : hi ≤ B) : Sl E size lo hi w' v xs := h.agree hE (.below hB hh)
theorem Sl.nil (E : El α) (size lo hi : Nat) (w : World) : Sl E size lo hi w (.slice none 0 0) [] := ⟨none, 0, rfl, Nat.le_refl _, by simp [maxLen], fun _ => rfl, fun h => absurd rfl h⟩
theorem Sl.empty (E : El α) (size lo hi : Nat) (w : World) (ao : Option Addr) (cap : Nat) (hc : cap ≤ maxLen) (hn : ao = none → cap = 0) : Sl E size lo hi w (.slice ao 0 cap) [] :=
  ⟨ao, cap, rfl, Nat.zero_le _, hc, hn, fun h => absurd rfl h⟩
theorem Sl.len (h : Sl E size lo hi w v xs) : xs.length ≤ 9223372036854775807 := by
  obtain ⟨ao, cap, _, h2, h3, _⟩ := h
  simp only [maxLen] at h3
  omega
/-- The slice's value, and, as soon as an index is at hand, its address and the element's cells. -/
theorem Sl.form (h : Sl E size lo hi w v xs) : ∃ ao cap, v = .slice ao xs.length cap ∧ xs.length ≤ cap ∧ cap ≤ 9223372036854775807 ∧ (ao = none → cap = 0) ∧
    ∀ (k : Nat) (_ : k < xs.length), ∃ b off, ao = some ⟨b, off, none⟩ ∧ lo ≤ b ∧ b < hi ∧ ∀ (k : Nat) (h : k < xs.length), ∃ cs, cs.length = size ∧ CellsAt w b (off + k * size) cs ∧ E lo hi w cs xs[k] := by
  obtain ⟨ao, cap, h1, h2, h3, h4, h5⟩ := h
  exact ⟨ao, cap, h1, h2, by simpa [maxLen] using h3, h4, fun k hk => h5 (by intro e; subst e; simp at hk)⟩
/-- Empty or not. -/
theorem Sl.cases (h : Sl E size lo hi w v xs) : (xs = [] ∧ ∃ ao cap, v = .slice ao 0 cap ∧ cap ≤ 9223372036854775807 ∧ (ao = none → cap = 0)) ∨
    (0 < xs.length ∧ ∃ b off cap, v = .slice (some ⟨b, off, none⟩) xs.length cap ∧ xs.length ≤ cap ∧ cap ≤ 9223372036854775807 ∧ lo ≤ b ∧ b < hi ∧
      ∀ (k : Nat) (h : k < xs.length), ∃ cs, cs.length = size ∧ CellsAt w b (off + k * size) cs ∧ E lo hi w cs xs[k]) := by
  obtain ⟨ao, cap, h1, h2, h3, h4, h5⟩ := h
  have h3' : cap ≤ 9223372036854775807 := by simpa [maxLen] using h3
  cases hx : xs with
  | nil => subst hx; exact .inl ⟨rfl, ao, cap, h1, h3', h4⟩
  | cons x r =>
    obtain ⟨b, off, rfl, k1, k2, k3⟩ := h5 (by simp [hx])
    subst hx
    exact .inr ⟨by simp, b, off, cap, h1, h2, h3', k1, k2, k3⟩
end

/-- An owned row (of the kit's laws on append) as a slice of flat elements. -/
theorem Sl.ofOwn {α : Type} {enc : α → List Value} {size lo : Nat} {w : World} {e : TypeId} {v : Value} {xs : List α} (henc : ∀ x, (enc x).length = size)
    (h : w.ownsRow lo e size v xs.length (xs.flatMap enc)) : Sl (flat enc) size lo w.heap.size w v xs := by
  have hlen : ∀ (l : List α), (l.flatMap enc).length = l.length * size := by
    intro l; induction l with
    | nil => simp
    | cons x r ih => simp [henc, ih, Nat.add_mul, Nat.add_comm]
  rcases h.2 with ⟨rfl, hn⟩ | ⟨g, cap, cur, rfl, hb, hg, hnc, hcm, hcs, htake⟩
  · have : xs = [] := List.eq_nil_of_length_eq_zero hn
    subst this
    exact Sl.nil _ _ _ _ _
  · refine ⟨_, cap, rfl, hnc, hcm, (fun h => by cases h), fun _ => ⟨g, 0, rfl, hb, (Array.getElem?_eq_some_iff.1 hg).1, fun k hk => ⟨enc xs[k], henc _, ?_, rfl⟩⟩⟩
    intro j u hu
    have hj : j < size := by have := (List.getElem?_eq_some_iff.1 hu).1; rwa [henc] at this
    have hx : xs = xs.take k ++ xs[k] :: xs.drop (k + 1) := by rw [← List.drop_eq_getElem_cons hk, List.take_append_drop]
    have h1 : (xs.flatMap enc)[k * size + j]? = some u := by
      have hf : xs.flatMap enc = (xs.take k).flatMap enc ++ (enc xs[k] ++ (xs.drop (k + 1)).flatMap enc) := by
        exact (congrArg (List.flatMap enc) hx).trans (by rw [List.flatMap_append, List.flatMap_cons])
      rw [hf, List.getElem?_append_right (by rw [hlen, List.length_take]; rw [Nat.min_eq_left (by omega)]; omega), hlen, List.length_take, Nat.min_eq_left (by omega), show k * size + j - k * size = j by omega, List.getElem?_append_left (by rw [henc]; exact hj)]
      exact hu
    simp only [World.cell?, hg]
    rw [← htake, List.getElem?_take] at h1
    split at h1
    · simpa using h1
    · cases h1

theorem drewN {B : Nat} {a w : World} (h : Below B a w) (n : Nat) : Below B a (w.drewN n) := h.trans ⟨rfl, rfl, rfl, Nat.le_refl _, fun _ _ => rfl⟩
theorem any_take_succ {α : Type} (l : List α) (p : α → Bool) (k : Nat) (h : k < l.length) : (l.take (k + 1)).any p = ((l.take k).any p || p l[k]) := by
  rw [List.take_succ_eq_append_getElem h, List.any_append]; simp
theorem all_take_succ {α : Type} (l : List α) (p : α → Bool) (k : Nat) (h : k < l.length) : (l.take (k + 1)).all p = ((l.take k).all p && p l[k]) := by
  rw [List.take_succ_eq_append_getElem h, List.all_append]; simp
end Go.Proofs.Ytkcpanaojehgiaa
