/- A slice of an argument, opened, with its bulk. -/
import Derived.Test.YtkcpanaojehgiaaLift
namespace Go.Proofs.Ytkcpanaojehgiaa
open Go.ChangeShapes Go.WideShapes Go.ChangeAt Go.RowKit

theorem bulk_one {H : Type} (d : DataW H) : 1 ≤ Rows.uptoBulk d := by
  cases d with
  | lit l => cases l <;> simp [Rows.uptoBulk]
  | nil => simp [Rows.uptoBulk]
  | ptr d => simp [Rows.uptoBulk]
  | slice elems spare => simp [Rows.uptoBulk]
  | agg parts => simp [Rows.uptoBulk]
  | iface t d => simp [Rows.uptoBulk]
  | map entries => simp [Rows.uptoBulk]
  | held h => simp [Rows.uptoBulk]
theorem bulk_part {H : Type} {d : DataW H} {l : List (DataW H)} (h : d ∈ l) : Rows.uptoBulk d ≤ Rows.uptoBulkAll l := by
  induction l with
  | nil => cases h
  | cons x r ih =>
    simp only [Rows.uptoBulkAll]
    cases List.mem_cons.1 h with
    | inl e => subst e; omega
    | inr e => have := ih e; omega
theorem bulk_map {H : Type} (D : Nat → DataW H) (g : Nat → Nat) : ∀ (L : List Nat), (∀ i ∈ L, g i ≤ Rows.uptoBulk (D i)) → (L.map g).sum ≤ Rows.uptoBulkAll (L.map D)
  | [], _ => Nat.zero_le _
  | i :: L, h => by
    have h1 := h i (List.mem_cons_self ..)
    have h2 := bulk_map D g L (fun j hj => h j (List.mem_cons_of_mem _ hj))
    simp only [List.map_cons, List.sum_cons, Rows.uptoBulkAll]
    omega
theorem bulk_bound {H : Type} {l : List (DataW H)} (hk : Rows.uptoSmall H l = true) {d : DataW H} (h : d ∈ l) : Rows.uptoBulk d ≤ 1048576 := by
  have h1 : Rows.uptoBulkAll l ≤ 1048576 := by simpa [Rows.uptoSmall] using hk
  have := bulk_part h
  omega

/-- A slice opened, its elements by 'hel', with their bulk. -/
theorem open_slB {H : Type} {enc : TypeId × Value → H} {P : Program} {α : Type} [Inhabited α] {E : El α} {ok : α → Prop} {f : α → Nat} {w : World} {t e : TypeId} {size : Nat} (ht : P.underlying t = some (.slice e)) (hC : P.cellsOf e = size) (hpos : 0 < size)
    (hel : ∀ n cs x, cs.length = size → DataW.trod enc P w 0 (fun _ => true) true n e cs = some x → ∃ a : α, E 0 w.heap.size w cs a ∧ ok a ∧ f a ≤ Rows.uptoBulk x.1)
    {n : Nat} {v : Value} {x : DataW H × List MemPlace} (h : DataW.trod enc P w 0 (fun _ => true) true n t [v] = some x) : ∃ xs : List α, Sl E size 0 w.heap.size w v xs ∧ (∀ a ∈ xs, ok a) ∧ (xs.map f).sum ≤ Rows.uptoBulk x.1 := by
  rcases Deep.open_slice ht h with ⟨hcs, hx⟩ | ⟨a, len, cap, m, n, D, Pl, hcs, _, hl, hm, hmm, hx, hi⟩
  · simp only [List.cons.injEq, and_true] at hcs
    subst hcs
    exact ⟨[], Sl.nil _ _ _ _ _, (fun _ h => by cases h), Nat.zero_le _⟩
  · simp only [List.cons.injEq, and_true] at hcs
    subst hcs
    simp only [if_true] at hmm
    subst hmm
    rw [hC] at hi
    have hi' : ∀ i, i < len → ∃ y : α × List Value, y.2.length = size ∧ (∀ j, j < size → w.cell? ((a.add (i * size)).add j) = y.2[j]?) ∧ E 0 w.heap.size w y.2 y.1 ∧ ok y.1 ∧ f y.1 ≤ Rows.uptoBulk (D i) := by
      intro i hil
      obtain ⟨cs', hc, ht'⟩ := hi i (by omega)
      obtain ⟨_, hcl, hat⟩ := World.cells?_some hc
      obtain ⟨x, hx, hox, hfx⟩ := hel _ _ _ hcl ht'
      exact ⟨(x, cs'), hcl, hat, hx, hox, hfx⟩
    have : Inhabited (α × List Value) := ⟨(default, [])⟩
    obtain ⟨F, hf⟩ := Deep.choose_lt hi'
    have hlen : ((List.range len).map fun i => (F i).1).length = len := by simp
    refine ⟨(List.range len).map fun i => (F i).1, ⟨some a, m, by rw [hlen], by rw [hlen]; exact hl, hm, (fun h => by cases h), fun hne => ?_⟩, ?_, ?_⟩
    · have h0 : 0 < len := by
        cases len with
        | zero => simp at hne
        | succ k => omega
      obtain ⟨b, off, spot⟩ := a
      obtain ⟨l0, c0, _⟩ := hf 0 h0
      have hc0 := c0 0 hpos
      rw [List.getElem?_eq_getElem (by omega)] at hc0
      have hs : spot = none := by simpa [Addr.add] using World.cell?_spot hc0
      subst hs
      have hb := World.block_lt_of_cell? _ _ hc0
      refine ⟨b, off, rfl, Nat.zero_le _, by simpa [Addr.add] using hb, fun k hk => ?_⟩
      rw [hlen] at hk
      obtain ⟨l1, c1, e1, _⟩ := hf k hk
      refine ⟨(F k).2, l1, fun j v hj => ?_, by simpa using e1⟩
      have hj' : j < size := by have := (List.getElem?_eq_some_iff.1 hj).1; omega
      have := c1 j hj'
      rw [hj, Deep.add_add, Addr.add_lit, ← Nat.add_assoc] at this
      exact this
    · intro x hx
      obtain ⟨i, hi1, rfl⟩ := List.mem_map.1 hx
      exact (hf i (List.mem_range.1 hi1)).2.2.2.1
    · rw [hx, List.map_map]
      have := bulk_map D (fun i => f (F i).1) (List.range len) (fun i hi => (hf i (List.mem_range.1 hi)).2.2.2.2)
      simp only [Rows.uptoBulk]
      have h2 : (f ∘ fun i => (F i).1) = (fun i => f (F i).1) := rfl
      rw [h2]
      omega
end Go.Proofs.Ytkcpanaojehgiaa
