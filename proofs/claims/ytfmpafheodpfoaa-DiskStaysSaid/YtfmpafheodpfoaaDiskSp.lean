/- The plain law of DiskStays: what Up makes of a sector, beside the sector's row. -/
import Derived.Test.YtfmpafheodpfoaaDiskOk
namespace Go.Proofs.Ytfmpafheodpfoaa
open Go.RowKit

/-- A sector's row: what is safe, and its writes. -/
def Dk.row (d : Dk) (i : Nat) : List (List UInt8) := d.safe.getD i [] :: d.writes.getD i []
theorem row_fresh (n i : Nat) (hi : i < n) : (Dk.fresh n).row i = [zeroS] := by simp [Dk.row, Dk.fresh, List.getD, hi]
theorem row_wr {d : Dk} {n : Nat} (hn : d.writes.length = n) (k i : Nat) (hk : k < n) (b : List UInt8) : (d.wr k b).row i = if i = k then d.row k ++ [b] else d.row i := by
  simp only [Dk.row, Dk.wr]
  by_cases hi : i = k
  · subst hi
    rw [if_pos rfl]
    simp [List.getD, List.getElem?_set, hn, hk]
  · rw [if_neg hi]
    simp [List.getD, List.getElem?_set, Ne.symm hi]
theorem row_fl {d : Dk} (i : Nat) (hi : i < d.safe.length) : d.fl.row i = [d.last i] := by
  simp only [Dk.row, Dk.fl, Dk.upTo]
  simp [List.getD, hi]
theorem row_last (d : Dk) (i : Nat) : (d.row i).drop ((d.row i).length - 1) = [d.last i] := by
  simp only [Dk.row, Dk.last]
  cases h : d.writes.getD i [] with
  | nil => rfl
  | cons a r =>
    have hne : a :: r ≠ [] := by simp
    rw [List.getLast?_eq_some_getLast hne, Option.getD_some, List.length_cons, Nat.add_sub_cancel]
    obtain ⟨ini, hini⟩ : ∃ ini, a :: r = ini ++ [(a :: r).getLast hne] := ⟨_, (List.dropLast_concat_getLast hne).symm⟩
    have hl : (a :: r).length = ini.length + 1 := by rw [hini]; simp
    rw [hl]
    conv => lhs; rw [hini]
    rw [← List.cons_append, List.drop_append_of_le_length (by simp)]
    simp
theorem cnt_mono (d : Dk) (i : Nat) : ∀ j, i ≤ j → cnt d i ≤ cnt d j
  | 0, h => by obtain rfl : i = 0 := by omega
               exact Nat.le_refl _
  | j + 1, h => by
    by_cases e : i = j + 1
    · rw [e]; exact Nat.le_refl _
    · have := cnt_mono d i j (by omega)
      simp only [cnt]
      omega
theorem cnt_lt (d : Dk) (i j : Nat) (h : i < j) (hw : d.writes.getD i [] ≠ []) : cnt d i < cnt d j := by
  have h1 := cnt_mono d (i + 1) j h
  simp only [cnt, if_neg hw] at h1
  omega
/-- What comes of a sector is of its row, or torn between two neighbours of it; that only at one number. -/
theorem fate_row (d : Dk) (keep : List UInt8) (tn at' : Int) (i : Nat) (hl : ∀ s ∈ d.row i, s.length = 128) :
    fate d keep tn at' i ∈ d.row i ∨ ((cnt d i : Int) = tn ∧ d.writes.getD i [] ≠ [] ∧ ∃ k, 1 ≤ k ∧ k < (d.row i).length ∧ (fate d keep tn at' i).take (atN at') = ((d.row i).getD k []).take (atN at') ∧ (fate d keep tn at' i).drop (atN at') = ((d.row i).getD (k - 1) []).drop (atN at')) := by
  unfold fate
  by_cases hz : d.writes.getD i [] = []
  · rw [if_pos hz]
    exact .inl (List.mem_cons_self ..)
  rw [if_neg hz]
  have hk : pickP (d.writes.getD i []).length keep (cnt d i) < (d.row i).length := by
    simp only [Dk.row, List.length_cons, pickP]
    split <;> omega
  have hrow : d.safe.getD i [] :: d.writes.getD i [] = d.row i := rfl
  rw [hrow]
  generalize pickP (d.writes.getD i []).length keep (cnt d i) = k at *
  by_cases ht : (cnt d i : Int) = tn ∧ 0 < k
  · rw [if_pos ht]
    refine .inr ⟨ht.1, hz, k, ht.2, hk, ?_, ?_⟩
    · have h1 : ((d.row i).getD k []).length = 128 := rows_len hl k hk
      have := atN_le at'
      simp only [tornP]
      rw [List.take_append_of_le_length (by rw [List.length_take]; omega), List.take_take, Nat.min_self]
    · have h1 : ((d.row i).getD k []).length = 128 := rows_len hl k hk
      have := atN_le at'
      simp only [tornP]
      have h3 : (((d.row i).getD k []).take (atN at')).length = atN at' := by rw [List.length_take]; omega
      rw [List.drop_append, h3, Nat.sub_self, List.drop_zero, List.drop_eq_nil_of_le (by omega), List.nil_append]
  · rw [if_neg ht]
    left
    rw [show (d.row i).getD k [] = (d.row i)[k] by simp [List.getD, List.getElem?_eq_getElem hk]]
    exact List.getElem_mem hk
theorem upd_last (d : Dk) (f : Nat → List UInt8) (a : Int) (b : Bool) (c : Int) (i : Nat) (hi : i < d.safe.length) : Dk.last ⟨(d.upTo f d.safe.length).safe, (d.upTo f d.safe.length).writes, a, b, c⟩ i = f i := by
  simp [Dk.last, Dk.upTo, List.getD, hi]
theorem row_lens {w : World} {S : Nat → Prop} {db : Nat} {d : Dk} (h : DkAt w S db d) (i : Nat) (hi : i < d.safe.length) : ∀ s ∈ d.row i, s.length = 128 := by
  obtain ⟨sb, wb, ws, h⟩ := h
  intro s hs
  rcases List.mem_cons.1 hs with rfl | hs
  · exact rows_len h.ls i hi
  · have hi2 : i < d.writes.length := by rw [h.lr]; exact hi
    rw [show d.writes.getD i [] = d.writes[i] by simp [List.getD, List.getElem?_eq_getElem hi2]] at hs
    exact h.lwr _ (List.getElem_mem hi2) s hs
theorem fate_length (d : Dk) (keep : List UInt8) (tn at' : Int) (i : Nat) (hl : ∀ s ∈ d.row i, s.length = 128) : (fate d keep tn at' i).length = 128 := by
  rcases fate_row d keep tn at' i hl with h | ⟨-, -, k, h1, h2, h3, h4⟩
  · exact hl _ h
  · have e := List.take_append_drop (atN at') (fate d keep tn at' i)
    have l1 : ((d.row i).getD k []).length = 128 := rows_len hl k h2
    have l2 : ((d.row i).getD (k - 1) []).length = 128 := rows_len hl (k - 1) (by omega)
    have := atN_le at'
    have e2 := congrArg List.length e
    rw [List.length_append, h3, h4, List.length_take, List.length_drop, l1, l2] at e2
    omega
end Go.Proofs.Ytfmpafheodpfoaa
