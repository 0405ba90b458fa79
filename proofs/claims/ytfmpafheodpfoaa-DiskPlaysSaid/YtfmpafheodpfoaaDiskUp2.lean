/- Which sectors have writes, in order. -/
import Derived.Test.YtfmpafheodpfoaaDiskUp
import Derived.Test.YtfmpafheodpfoaaDiskDi
namespace Go.Proofs.Ytfmpafheodpfoaa
open Go.RowKit
theorem cnt_mono (d : Dk) {i k : Nat} (h : i ≤ k) : cnt d i ≤ cnt d k := by
  induction k with
  | zero => have : i = 0 := by omega
            subst this; exact Nat.le_refl _
  | succ k ih =>
    by_cases e : i = k + 1
    · subst e; exact Nat.le_refl _
    · have := ih (by omega)
      simp only [cnt]
      omega
theorem cnt_hit (d : Dk) (i : Nat) (h : ¬ d.writes.getD i [] = []) : cnt d (i + 1) = cnt d i + 1 := by simp only [cnt]; rw [if_neg h]
theorem dirty_len (d : Dk) : ∀ i, (dirtyTo d i).length = cnt d i
  | 0 => rfl
  | i + 1 => by
    have := dirty_len d i
    simp only [dirtyTo, cnt, List.length_append]
    by_cases h : d.writes.getD i [] = []
    · rw [if_pos h, if_pos h]; simpa using this
    · rw [if_neg h, if_neg h]; simpa using this
theorem dirty_at (d : Dk) : ∀ (N n : Nat), n < cnt d N → ∃ j, j < N ∧ ¬ d.writes.getD j [] = [] ∧ cnt d j = n ∧ (dirtyTo d N)[n]? = some j
  | 0, n, h => by simp [cnt] at h
  | N + 1, n, h => by
    by_cases hn : n < cnt d N
    · obtain ⟨j, h1, h2, h3, h4⟩ := dirty_at d N n hn
      refine ⟨j, by omega, h2, h3, ?_⟩
      rw [dirtyTo, List.getElem?_append_left (by rw [dirty_len]; exact hn)]
      exact h4
    · have hz : ¬ d.writes.getD N [] = [] := fun e => by
        simp only [cnt] at h
        rw [if_pos e] at h
        omega
      have hc := cnt_hit d N hz
      have e : n = cnt d N := by omega
      subst e
      refine ⟨N, by omega, hz, rfl, ?_⟩
      rw [dirtyTo, if_neg hz, List.getElem?_append_right (by rw [dirty_len]; exact Nat.le_refl _), dirty_len, Nat.sub_self]
      rfl
theorem upTo_skips (d : Dk) (f : Nat → List UInt8) (hf : ∀ j, d.writes.getD j [] = [] → f j = d.safe.getD j []) (i : Nat) : ∀ k, i ≤ k → cnt d k = cnt d i → d.upTo f k = d.upTo f i
  | 0, h, _ => by
    have : i = 0 := by omega
    subst this; rfl
  | k + 1, h, hc => by
    by_cases e : i = k + 1
    · subst e; rfl
    · have h1 := cnt_mono d (show i ≤ k by omega)
      have h2 := cnt_mono d (show k ≤ k + 1 by omega)
      have hz : d.writes.getD k [] = [] := Classical.byContradiction fun hh => by
        have := cnt_hit d k hh
        omega
      rw [Dk.upTo_skip d f k hz (hf k hz)]
      exact upTo_skips d f hf i k (by omega) (by omega)
theorem cnt_between (d : Dk) {i j : Nat} (h : cnt d j = cnt d i) (hz : ¬ d.writes.getD j [] = []) : i ≤ j := by
  apply Classical.byContradiction
  intro hh
  have h1 := cnt_mono d (show j + 1 ≤ i by omega)
  have h2 := cnt_hit d j hz
  omega
theorem fate_clean (d : Dk) (keep : List UInt8) (tn at' : Int) (j : Nat) (h : d.writes.getD j [] = []) : fate d keep tn at' j = d.safe.getD j [] := by rw [fate, if_pos h]
theorem fate_dirty (d : Dk) (keep : List UInt8) (tn at' : Int) (j : Nat) (h : ¬ d.writes.getD j [] = []) : fate d keep tn at' j =
    if (cnt d j : Int) = tn ∧ 0 < pickP (d.writes.getD j []).length keep (cnt d j) then
      tornP ((d.safe.getD j [] :: d.writes.getD j []).getD (pickP (d.writes.getD j []).length keep (cnt d j)) []) ((d.safe.getD j [] :: d.writes.getD j []).getD (pickP (d.writes.getD j []).length keep (cnt d j) - 1) []) at'
    else (d.safe.getD j [] :: d.writes.getD j []).getD (pickP (d.writes.getD j []).length keep (cnt d j)) [] := by rw [fate, if_neg h]
theorem pickP_le (n : Nat) (keep : List UInt8) (c : Nat) : pickP n keep c ≤ n := by unfold pickP; split <;> omega
end Go.Proofs.Ytfmpafheodpfoaa
