/- Slices whose memory may be written, whatever it holds. -/
import Derived.Test.YtpncblagjkbemaaRowO
namespace Go.Proofs.Ytpncblagjkbemaa
open Go.RowKit
set_option linter.unusedVariables false
set_option linter.unusedSimpArgs false

/-- v has n elements in a block of its own among lo .. hi that may be written; what it holds is not said. -/
def Shp (e : TypeId) (size lo hi : Nat) (w : World) (v : Value) (n : Nat) : Prop :=
  (n = 0 ∧ v = .slice none 0 0) ∨ ∃ g cap cur, v = .slice (some ⟨g, 0, none⟩) n cap ∧ lo ≤ g ∧ g < hi ∧ n ≤ cap ∧ cap ≤ 9223372036854775807 ∧ w.heap[g]? = some (.cells cur e) ∧ n * size ≤ cur.size
theorem heap_setCell_shape {w : World} {g : Nat} {cur : Array Value} {e : TypeId} (h : w.heap[g]? = some (.cells cur e)) (b i : Nat) (u : Value) : ∃ cur', (w.setCell ⟨b, i, none⟩ u).heap[g]? = some (.cells cur' e) ∧ cur'.size = cur.size := by
  by_cases hg : g = b
  · subst hg
    have hb : Blk w g cur.toList e := by unfold Blk; simpa using h
    have hs := hb.set i u
    unfold Blk at hs
    exact ⟨_, hs, by simp⟩
  · exact ⟨cur, (Below.heap_setCell _ _ _ _ hg).trans h, rfl⟩
theorem Shp.setCell {e : TypeId} {size lo hi : Nat} {w : World} {v : Value} {n : Nat} (h : Shp e size lo hi w v n) (b i : Nat) (u : Value) : Shp e size lo hi (w.setCell ⟨b, i, none⟩ u) v n := by
  rcases h with h | ⟨g, cap, cur, rfl, h1, h2, h3, h4, h5, h6⟩
  · exact .inl h
  · obtain ⟨cur', h5', h6'⟩ := heap_setCell_shape h5 b i u
    exact .inr ⟨g, cap, cur', rfl, h1, h2, h3, h4, h5', by omega⟩
theorem Shp.below {e : TypeId} {size lo hi B : Nat} {w w' : World} {v : Value} {n : Nat} (h : Shp e size lo hi w v n) (hB : Below B w w') (hb : hi ≤ B) : Shp e size lo hi w' v n := by
  rcases h with h | ⟨g, cap, cur, rfl, h1, h2, h3, h4, h5, h6⟩
  · exact .inl h
  · exact .inr ⟨g, cap, cur, rfl, h1, h2, h3, h4, (hB.block g (by omega)).trans h5, h6⟩
/-- A cell of it is there, and may be written. -/
theorem Shp.cell {e : TypeId} {size lo hi : Nat} {w : World} {v : Value} {n : Nat} (h : Shp e size lo hi w v n) {j : Nat} (hj : j < n) : ∃ g cap, v = .slice (some ⟨g, 0, none⟩) n cap ∧ lo ≤ g ∧ g < hi ∧ n ≤ cap ∧ cap ≤ 9223372036854775807 ∧ (∀ i, i < size → ∃ u, w.cell? ⟨g, j * size + i, none⟩ = some u) ∧ ∀ i, w.frozen? ⟨g, i, none⟩ = false := by
  rcases h with ⟨h, -⟩ | ⟨g, cap, cur, rfl, h1, h2, h3, h4, h5, h6⟩
  · omega
  · have hb : Blk w g cur.toList e := by unfold Blk; simpa using h5
    refine ⟨g, cap, rfl, h1, h2, h3, h4, fun i hi => ?_, fun i => hb.free i⟩
    have hlt : j * size + i < cur.toList.length := by
      have := Nat.mul_le_mul_right size (Nat.succ_le_of_lt hj)
      rw [Nat.succ_mul] at this
      rw [Array.length_toList]
      omega
    refine ⟨cur.toList[j * size + i], ?_⟩
    have := hb.cells (j * size + i) cur.toList[j * size + i] (List.getElem?_eq_getElem hlt)
    simpa using this
theorem Shp.ofOwn {α : Type} {enc : α → List Value} {e : TypeId} {size lo : Nat} {w : World} {v : Value} {xs : List α} (h : Own enc e size lo w v xs) : Shp e size lo w.heap.size w v xs.length := by
  have hl := Own.lt h
  rcases h.2 with ⟨ev, hn⟩ | ⟨g, cap, cur, ev, hb, hg, hnc, hcm, hcs, htake⟩
  · exact .inl ⟨hn, ev⟩
  · subst ev
    refine .inr ⟨g, cap, cur, rfl, hb, (hl g rfl).2, hnc, hcm, hg, ?_⟩
    have := Nat.mul_le_mul_right size hnc
    omega
end Go.Proofs.Ytpncblagjkbemaa
