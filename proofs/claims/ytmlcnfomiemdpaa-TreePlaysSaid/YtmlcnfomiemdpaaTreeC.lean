/- Trees: what Cut, Rank, At and Range answer, as plain data. No function of the program in sight. -/
import Derived.Test.YtmlcnfomiemdpaaTreeQ
namespace Go.Proofs.Ytmlcnfomiemdpaa
open Go.RowKit

def T.rest : T → T
  | .nil => .nil
  | .node _ _ .nil r => r
  | .node k v (.node a b c d) r => T.level k v (T.rest (.node a b c d)) r
def T.fst : T → List UInt8 × List UInt8
  | .nil => ([], [])
  | .node k v .nil _ => (k, v)
  | .node _ _ (.node a b c d) _ => T.fst (.node a b c d)
theorem T.rest_many : ∀ (k v : List UInt8) (l r : T), (T.rest (.node k v l r)).many = l.many + r.many
  | k, v, .nil, r => by simp [T.rest, T.many]
  | k, v, .node a b c d, r => by
    have := T.rest_many a b c d
    simp only [T.rest, T.level_many, T.many] at *
    omega
theorem T.toL_rest : ∀ (k v : List UInt8) (l r : T), T.toL (.node k v l r) = T.fst (.node k v l r) :: T.toL (T.rest (.node k v l r))
  | k, v, .nil, r => by simp [T.rest, T.fst, T.toL]
  | k, v, .node a b c d, r => by
    have ih := T.toL_rest a b c d
    rw [T.toL, ih, T.rest, T.fst, T.toL_level]
    rfl
/-- A tree without a key. -/
def T.cut (k : List UInt8) : T → T
  | .nil => .nil
  | .node k' v' l r =>
    if cmpB k k' < 0 then T.level k' v' (l.cut k) r
    else if 0 < cmpB k k' then T.level k' v' l (r.cut k)
    else match l, r with
      | .nil, r => r
      | l, .nil => l
      | l, .node a b c d => T.level (T.fst (.node a b c d)).1 (T.fst (.node a b c d)).2 l (T.rest (.node a b c d))
theorem T.cut_many (k : List UInt8) : ∀ (t : T), (t.cut k).many ≤ t.many
  | .nil => Nat.le_refl _
  | .node k' v' l r => by
    have h1 := l.cut_many k
    have h2 := r.cut_many k
    unfold T.cut
    split
    · rw [T.level_many]; simp only [T.many]; omega
    · split
      · rw [T.level_many]; simp only [T.many]; omega
      · split
        · simp only [T.many]; omega
        · simp only [T.many]; omega
        · rw [T.level_many, T.rest_many]; simp only [T.many]; omega
def delL (k : List UInt8) (l : PL) : PL := l.filter fun x => decide (cmpB k x.1 ≠ 0)
theorem delL_all (k : List UInt8) (l : PL) (h : ∀ x ∈ l, cmpB k x.1 ≠ 0) : delL k l = l := List.filter_eq_self.2 fun x hx => decide_eq_true (h x hx)
theorem delL_append (k : List UInt8) (l m : PL) : delL k (l ++ m) = delL k l ++ delL k m := List.filter_append ..
theorem delL_cons (k : List UInt8) (x : List UInt8 × List UInt8) (m : PL) : delL k (x :: m) = if cmpB k x.1 ≠ 0 then x :: delL k m else delL k m := by
  simp only [delL, List.filter_cons, decide_eq_true_eq]
theorem T.toL_cut (k : List UInt8) : ∀ (t : T), Rises t.toL → (t.cut k).toL = delL k t.toL
  | .nil, _ => rfl
  | .node k' v' l r, h => by
    obtain ⟨h1, h2, h3, h4⟩ := rises_node h
    have il := l.toL_cut k h1
    have ir := r.toL_cut k h2
    unfold T.cut
    by_cases c1 : cmpB k k' < 0
    · rw [if_pos c1, T.toL_level, il, T.toL, delL_append, delL_cons, if_pos (by show cmpB k k' ≠ 0; omega), delL_all k r.toL fun x hx => by
        have := cmpB_trans _ _ _ c1 (h4 x hx); omega]
    · by_cases c2 : 0 < cmpB k k'
      · rw [if_neg c1, if_pos c2, T.toL_level, ir, T.toL, delL_append, delL_cons, if_pos (by show cmpB k k' ≠ 0; omega), delL_all k l.toL fun x hx => by
          have := cmpB_pos.1 (cmpB_trans _ _ _ (h3 x hx) (cmpB_pos.2 c2)); omega]
      · have e : cmpB k k' = 0 := by omega
        have ek := cmpB_eq k k' e
        rw [if_neg c1, if_neg c2, T.toL, delL_append, delL_cons, if_neg (by simp [e]), delL_all k l.toL fun x hx => (by
          have := h3 x hx
          have := cmpB_flip x.1 k'
          rw [ek]; omega), delL_all k r.toL fun x hx => (by
          have := h4 x hx
          rw [ek]; omega)]
        cases l with
        | nil => rfl
        | node a b c d =>
          cases r with
          | nil => simp [T.toL]
          | node a' b' c' d' =>
            show (T.level _ _ _ _).toL = _
            rw [T.toL_level, T.toL_rest a' b' c' d']
theorem rises_delL (k : List UInt8) (l : PL) (h : Rises l) : Rises (delL k l) := List.Pairwise.filter _ h
/-- How many keys stand ahead of one. -/
def T.rank (k : List UInt8) : T → Nat
  | .nil => 0
  | .node k' _ l r => if cmpB k' k < 0 then l.many + 1 + r.rank k else l.rank k
def lowL (k : List UInt8) (l : PL) : PL := l.filter fun x => decide (cmpB x.1 k < 0)
def highL (k : List UInt8) (l : PL) : PL := l.filter fun x => decide (¬ cmpB x.1 k < 0)
theorem T.rank_eq (k : List UInt8) : ∀ (t : T), Rises t.toL → t.rank k = (lowL k t.toL).length
  | .nil, _ => rfl
  | .node k' v' l r, h => by
    obtain ⟨h1, h2, h3, h4⟩ := rises_node h
    have il := l.rank_eq k h1
    have ir := r.rank_eq k h2
    simp only [T.rank, T.toL, lowL, List.filter_append, List.filter_cons] at *
    by_cases c : cmpB k' k < 0
    · rw [if_pos c, if_pos (by simpa using c), List.length_append, List.length_cons, ir, List.filter_eq_self.2 (fun x hx => decide_eq_true (cmpB_trans _ _ _ (h3 x hx) c)), T.many_toL]
      omega
    · have e : r.toL.filter (fun x => decide (cmpB x.1 k < 0)) = [] := List.filter_eq_nil_iff.2 (fun x hx hd => by
        have h5 := of_decide_eq_true hd
        have := cmpB_trans _ _ _ (h4 x hx) h5
        omega)
      rw [if_neg c, if_neg (by simpa using c), List.length_append, il, e]
      rfl
theorem T.rank_le (k : List UInt8) : ∀ (t : T), t.rank k ≤ t.many
  | .nil => Nat.le_refl _
  | .node k' v' l r => by
    have := l.rank_le k
    have := r.rank_le k
    simp only [T.rank, T.many]
    split <;> omega
/-- What rises is what stands ahead of a key, and what stands from it on. -/
theorem low_high (k : List UInt8) : ∀ (l : PL), Rises l → lowL k l ++ highL k l = l
  | [], _ => rfl
  | (a, b) :: r, h => by
    have h' := List.pairwise_cons.1 h
    have ih := low_high k r h'.2
    simp only [lowL, highL, List.filter_cons] at *
    by_cases c : cmpB a k < 0
    · rw [if_pos (by simpa using c), if_neg (by simpa using c), List.cons_append, ih]
    · have e1 : r.filter (fun x => decide (cmpB x.1 k < 0)) = [] := List.filter_eq_nil_iff.2 (fun x hx hd => by
        have h5 := of_decide_eq_true hd
        have := cmpB_trans _ _ _ (h'.1 x hx) h5
        omega)
      rw [e1] at ih ⊢
      rw [if_neg (by simpa using c), if_pos (by simpa using c), List.nil_append]
      rw [List.nil_append] at ih
      rw [ih]
/-- The pair at a place. -/
def T.at : T → Nat → List UInt8 × List UInt8
  | .nil, _ => ([], [])
  | .node k v l r, i => if i = l.many then (k, v) else if i < l.many then l.at i else r.at (i - (l.many + 1))
theorem T.at_eq : ∀ (t : T) (i : Nat), i < t.many → t.toL[i]? = some (t.at i)
  | .nil, i, h => by simp [T.many] at h
  | .node k v l r, i, h => by
    simp only [T.many] at h
    have hl := l.many_toL
    simp only [T.toL, T.at]
    by_cases c : i = l.many
    · rw [if_pos c, List.getElem?_append_right (by omega), hl, c, Nat.sub_self]
      rfl
    · rw [if_neg c]
      by_cases c2 : i < l.many
      · rw [if_pos c2, List.getElem?_append_left (by omega)]
        exact l.at_eq i c2
      · rw [if_neg c2, List.getElem?_append_right (by omega), hl]
        obtain ⟨j, rfl⟩ : ∃ j, i = l.many + 1 + j := ⟨i - (l.many + 1), by omega⟩
        rw [show l.many + 1 + j - l.many = j + 1 by omega, List.getElem?_cons_succ, show l.many + 1 + j - (l.many + 1) = j by omega]
        exact r.at_eq j (by omega)
/-- The pairs from a key on, as the iterator tells them. -/
def T.from (k : List UInt8) : T → PL
  | .nil => []
  | .node k' v' l r => (if cmpB k' k < 0 then [] else l.from k ++ [(k', v')]) ++ r.from k
theorem T.from_eq (k : List UInt8) : ∀ (t : T), Rises t.toL → t.from k = highL k t.toL
  | .nil, _ => rfl
  | .node k' v' l r, h => by
    obtain ⟨h1, h2, h3, h4⟩ := rises_node h
    have il := l.from_eq k h1
    have ir := r.from_eq k h2
    simp only [T.from, T.toL, highL, List.filter_append, List.filter_cons] at *
    by_cases c : cmpB k' k < 0
    · have e : l.toL.filter (fun x => decide (¬ cmpB x.1 k < 0)) = [] := List.filter_eq_nil_iff.2 (fun x hx hd => by
        have h5 := of_decide_eq_true hd
        exact h5 (cmpB_trans _ _ _ (h3 x hx) c))
      rw [if_pos c, if_neg (by simpa using c), ir, e]
    · rw [if_neg c, if_pos (by simpa using c), il, ir, List.append_assoc]
      rfl
theorem T.from_mem (k : List UInt8) : ∀ (t : T) (x : List UInt8 × List UInt8), x ∈ t.from k → x ∈ t.toL
  | .nil, x, h => h
  | .node k' v' l r, x, h => by
    have il := l.from_mem k x
    have ir := r.from_mem k x
    simp only [T.from, T.toL] at *
    rcases List.mem_append.1 h with h | h
    · split at h
      · cases h
      · rcases List.mem_append.1 h with h | h
        · exact List.mem_append_left _ (il h)
        · rw [List.mem_singleton.1 h]; exact List.mem_append_right _ List.mem_cons_self
    · exact List.mem_append_right _ (List.mem_cons_of_mem _ (ir h))
theorem T.from_len (k : List UInt8) : ∀ (t : T), (t.from k).length ≤ t.many
  | .nil => Nat.le_refl _
  | .node k' v' l r => by
    have il := l.from_len k
    have ir := r.from_len k
    simp only [T.from, T.many, List.length_append] at *
    split
    · simp only [List.length_nil]; omega
    · simp only [List.length_append, List.length_cons, List.length_nil]; omega
/-- What Range tells. -/
def rangeL (to : List UInt8) (most : Int) (l : PL) : PL := (l.takeWhile fun x => decide (to = [] ∨ cmpB x.1 to < 0)).take most.toNat
theorem take_low (k : List UInt8) : ∀ (l : PL), Rises l → l.takeWhile (fun x => decide (cmpB x.1 k < 0)) = lowL k l
  | [], _ => rfl
  | (a, b) :: r, h => by
    have h' := List.pairwise_cons.1 h
    have ih := take_low k r h'.2
    simp only [lowL, List.takeWhile_cons, List.filter_cons] at *
    by_cases c : cmpB a k < 0
    · rw [if_pos (by simpa using c), if_pos (by simpa using c), ih]
    · rw [if_neg (by simpa using c), if_neg (by simpa using c)]
      exact (List.filter_eq_nil_iff.2 (fun x hx hd => by
        have h5 := of_decide_eq_true hd
        have := cmpB_trans _ _ _ (h'.1 x hx) h5
        omega)).symm
theorem rangeL_all (most : Int) (l : PL) (h : (l.length : Int) ≤ most) : rangeL [] most l = l := by
  have e : ∀ l : PL, (l.takeWhile fun x => decide (([] : List UInt8) = [] ∨ cmpB x.1 [] < 0)) = l := by
    intro l
    induction l with
    | nil => rfl
    | cons x r ih => rw [List.takeWhile_cons, ih]; simp
  rw [rangeL, e, List.take_of_length_le (by omega)]
theorem rangeL_low (k : List UInt8) (hk : k ≠ []) (most : Int) (l : PL) (hr : Rises l) (h : (l.length : Int) ≤ most) : rangeL k most l = lowL k l := by
  simp only [rangeL, hk, false_or]
  rw [take_low k l hr, List.take_of_length_le]
  have := List.length_filter_le (fun x : List UInt8 × List UInt8 => decide (cmpB x.1 k < 0)) l
  simp only [lowL]
  omega
theorem cmpB_nil (a : List UInt8) : ¬ cmpB a [] < 0 := by cases a <;> simp [cmpB, Lib.compareBytes]
theorem high_nil (l : PL) : highL [] l = l := List.filter_eq_self.2 fun x _ => decide_eq_true (cmpB_nil x.1)
/-- What Diff tells. -/
def diffL (u l : PL) : PL := l.filter fun x => decide (getL x.1 u ≠ some x.2)
end Go.Proofs.Ytmlcnfomiemdpaa
