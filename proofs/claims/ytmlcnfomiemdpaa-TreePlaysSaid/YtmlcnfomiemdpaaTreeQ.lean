/- Trees as lists of pairs. No program in sight. -/
import Derived.Test.YtmlcnfomiemdpaaTreeP
namespace Go.Proofs.Ytmlcnfomiemdpaa

abbrev cmpB (a b : List UInt8) : Int := Lib.compareBytes a b
theorem cmpB_flip : ∀ (a b : List UInt8), cmpB b a = - cmpB a b
  | [], [] => rfl
  | [], _ :: _ => rfl
  | _ :: _, [] => rfl
  | a :: al, b :: bl => by
    have ih := cmpB_flip al bl
    simp only [cmpB, Lib.compareBytes] at *
    by_cases h1 : a < b
    · have h2 : ¬ b < a := by rw [UInt8.lt_iff_toNat_lt] at *; omega
      simp [h1, h2]
    · by_cases h2 : b < a
      · simp [h1, h2]
      · simp [h1, h2, ih]
theorem cmpB_eq : ∀ (a b : List UInt8), cmpB a b = 0 → a = b
  | [], [], _ => rfl
  | [], _ :: _, h => by simp [cmpB, Lib.compareBytes] at h
  | _ :: _, [], h => by simp [cmpB, Lib.compareBytes] at h
  | a :: al, b :: bl, h => by
    simp only [cmpB, Lib.compareBytes] at h
    by_cases h1 : a < b
    · simp [h1] at h
    · by_cases h2 : b < a
      · simp [h1, h2] at h
      · rw [if_neg h1, if_neg h2] at h
        rw [cmpB_eq al bl h, show a = b by rw [← UInt8.toNat_inj]; rw [UInt8.lt_iff_toNat_lt] at h1 h2; omega]
theorem cmpB_self (a : List UInt8) : cmpB a a = 0 := by have := cmpB_flip a a; omega
theorem cmpB_trans : ∀ (a b c : List UInt8), cmpB a b < 0 → cmpB b c < 0 → cmpB a c < 0
  | [], [], _, h, _ => by simp [cmpB, Lib.compareBytes] at h
  | _ :: _, [], _, h, _ => by simp [cmpB, Lib.compareBytes] at h
  | _, _ :: _, [], _, h => by simp [cmpB, Lib.compareBytes] at h
  | [], _ :: _, _ :: _, _, _ => by simp [cmpB, Lib.compareBytes]
  | a :: al, b :: bl, c :: cl, h, k => by
    have ih := cmpB_trans al bl cl
    simp only [cmpB, Lib.compareBytes] at *
    simp only [UInt8.lt_iff_toNat_lt] at *
    by_cases h1 : a.toNat < c.toNat
    · rw [if_pos h1]; decide
    · by_cases h2 : c.toNat < a.toNat
      · exfalso
        by_cases k1 : a.toNat < b.toNat
        · rw [if_neg (by omega), if_pos (by omega)] at k; omega
        · rw [if_neg k1] at h
          by_cases k2 : b.toNat < a.toNat
          · rw [if_pos k2] at h; omega
          · rw [if_neg (by omega), if_pos (by omega)] at k; omega
      · rw [if_neg h1, if_neg h2]
        by_cases k1 : a.toNat < b.toNat
        · rw [if_neg (by omega), if_pos (by omega)] at k; omega
        · rw [if_neg k1] at h
          by_cases k2 : b.toNat < a.toNat
          · rw [if_pos k2] at h; omega
          · rw [if_neg k2] at h
            rw [if_neg (by omega), if_neg (by omega)] at k
            exact ih h k

abbrev PL := List (List UInt8 × List UInt8)
def T.toL : T → PL
  | .nil => []
  | .node k v l r => l.toL ++ (k, v) :: r.toL
def Rises (l : PL) : Prop := l.Pairwise fun a b => cmpB a.1 b.1 < 0
def insL (k v : List UInt8) : PL → PL
  | [] => [(k, v)]
  | (a, b) :: r => if cmpB k a < 0 then (k, v) :: (a, b) :: r else if 0 < cmpB k a then (a, b) :: insL k v r else (k, v) :: r
def getL (k : List UInt8) : PL → Option (List UInt8)
  | [] => none
  | (a, b) :: r => if cmpB k a = 0 then some b else getL k r
theorem T.toL_level (k v : List UInt8) (l r : T) : (T.level k v l r).toL = l.toL ++ (k, v) :: r.toL := by
  unfold T.level
  split
  · split
    · rfl
    · split
      · simp [T.toL]
      · split <;> simp [T.toL]
  · split
    · split
      · rfl
      · split
        · simp [T.toL]
        · split <;> simp [T.toL]
    · rfl
theorem T.many_toL : ∀ (t : T), t.toL.length = t.many
  | .nil => rfl
  | .node k v l r => by simp only [T.toL, T.many, List.length_append, List.length_cons, l.many_toL, r.many_toL]; omega
theorem insL_left (k v a b : List UInt8) (r : PL) : ∀ (l : PL), (∀ x ∈ l, cmpB x.1 a < 0) → cmpB k a < 0 → insL k v (l ++ (a, b) :: r) = insL k v l ++ (a, b) :: r
  | [], _, h => by simp [insL, h]
  | (c, d) :: l, hl, h => by
    have ih := insL_left k v a b r l (fun x hx => hl x (List.mem_cons_of_mem _ hx)) h
    simp only [List.cons_append, insL, ih]
    split
    · rfl
    · split <;> rfl
theorem insL_right (k v : List UInt8) : ∀ (l m : PL), (∀ x ∈ l, 0 < cmpB k x.1) → insL k v (l ++ m) = l ++ insL k v m
  | [], _, _ => rfl
  | (c, d) :: l, m, hl => by
    have ih := insL_right k v l m (fun x hx => hl x (List.mem_cons_of_mem _ hx))
    have h : 0 < cmpB k c := hl (c, d) List.mem_cons_self
    simp only [List.cons_append, insL, ih]
    rw [if_neg (by omega), if_pos h]
theorem rises_node {k v : List UInt8} {l r : PL} (h : Rises (l ++ (k, v) :: r)) : Rises l ∧ Rises r ∧ (∀ x ∈ l, cmpB x.1 k < 0) ∧ ∀ x ∈ r, cmpB k x.1 < 0 := by
  unfold Rises at *
  rw [List.pairwise_append, List.pairwise_cons] at h
  exact ⟨h.1, h.2.1.2, fun x hx => h.2.2 x hx (k, v) List.mem_cons_self, h.2.1.1⟩
theorem cmpB_pos {a b : List UInt8} : cmpB a b < 0 ↔ 0 < cmpB b a := by have := cmpB_flip a b; omega
theorem T.toL_put (k v : List UInt8) : ∀ (t : T), Rises t.toL → (t.put k v).toL = insL k v t.toL
  | .nil, _ => rfl
  | .node k' v' l r, h => by
    obtain ⟨h1, h2, h3, h4⟩ := rises_node h
    have il := l.toL_put k v h1
    have ir := r.toL_put k v h2
    unfold T.put
    by_cases c1 : Lib.compareBytes k k' < 0
    · rw [if_pos c1, T.toL_level, il, T.toL, insL_left _ _ _ _ _ _ h3 c1]
    · by_cases c2 : 0 < Lib.compareBytes k k'
      · rw [if_neg c1, if_pos c2, T.toL_level, ir, T.toL, insL_right _ _ _ _ (fun x hx => cmpB_pos.1 (cmpB_trans _ _ _ (h3 x hx) (cmpB_pos.2 c2)))]
        simp only [insL]
        rw [if_neg c1, if_pos c2]
      · have e := cmpB_eq k k' (show cmpB k k' = 0 by simp only [cmpB]; omega)
        subst e
        rw [if_neg c1, if_neg c2, T.toL, T.toL, insL_right _ _ _ _ (fun x hx => cmpB_pos.1 (h3 x hx))]
        simp only [insL]
        rw [if_neg c1, if_neg c2]
theorem mem_insL (k v : List UInt8) : ∀ (l : PL) (x : List UInt8 × List UInt8), x ∈ insL k v l → x = (k, v) ∨ x ∈ l
  | [], x, h => by simp only [insL, List.mem_singleton] at h; exact .inl h
  | (a, b) :: r, x, h => by
    simp only [insL] at h
    split at h
    · rcases List.mem_cons.1 h with h | h
      · exact .inl h
      · exact .inr h
    · split at h
      · rcases List.mem_cons.1 h with h | h
        · exact .inr (h ▸ List.mem_cons_self)
        · rcases mem_insL k v r x h with h | h
          · exact .inl h
          · exact .inr (List.mem_cons_of_mem _ h)
      · rcases List.mem_cons.1 h with h | h
        · exact .inl h
        · exact .inr (List.mem_cons_of_mem _ h)
theorem rises_insL (k v : List UInt8) : ∀ (l : PL), Rises l → Rises (insL k v l)
  | [], _ => by simp [insL, Rises]
  | (a, b) :: r, h => by
    have h' := List.pairwise_cons.1 h
    simp only [insL]
    split
    · rename_i c1
      refine List.pairwise_cons.2 ⟨fun x hx => ?_, h⟩
      rcases List.mem_cons.1 hx with rfl | hx
      · exact c1
      · exact cmpB_trans _ _ _ c1 (h'.1 x hx)
    · split
      · rename_i c1 c2
        refine List.pairwise_cons.2 ⟨fun x hx => ?_, rises_insL k v r h'.2⟩
        rcases mem_insL k v r x hx with rfl | hx
        · exact cmpB_pos.2 c2
        · exact h'.1 x hx
      · rename_i c1 c2
        have e := cmpB_eq k a (by omega)
        subst e
        exact List.pairwise_cons.2 ⟨fun x hx => h'.1 x hx, h'.2⟩
theorem getL_insL (k v : List UInt8) : ∀ (l : PL), getL k (insL k v l) = some v
  | [] => by simp [insL, getL, cmpB_self]
  | (a, b) :: r => by
    simp only [insL]
    split
    · simp [getL, cmpB_self]
    · split
      · rename_i c1 c2
        simp only [getL]
        rw [if_neg (by omega)]
        exact getL_insL k v r
      · simp [getL, cmpB_self]
theorem getL_append (k : List UInt8) : ∀ (l m : PL), (∀ x ∈ l, cmpB k x.1 ≠ 0) → getL k (l ++ m) = getL k m
  | [], _, _ => rfl
  | (a, b) :: r, m, h => by
    have h0 := h (a, b) List.mem_cons_self
    simp only [List.cons_append, getL]
    rw [if_neg h0]
    exact getL_append k r m (fun x hx => h x (List.mem_cons_of_mem _ hx))
theorem getL_none (k : List UInt8) : ∀ (l : PL), (∀ x ∈ l, cmpB k x.1 ≠ 0) → getL k l = none
  | [], _ => rfl
  | (a, b) :: r, h => by
    have h0 := h (a, b) List.mem_cons_self
    simp only [getL]
    rw [if_neg h0]
    exact getL_none k r (fun x hx => h x (List.mem_cons_of_mem _ hx))
theorem getL_left (k : List UInt8) : ∀ (l m : PL), (∀ x ∈ m, cmpB k x.1 ≠ 0) → getL k (l ++ m) = getL k l
  | [], m, h => getL_none k m h
  | (a, b) :: r, m, h => by
    simp only [List.cons_append, getL]
    split
    · rfl
    · exact getL_left k r m h
def T.get (k : List UInt8) (t : T) : Option (List UInt8) := match t.find k with
  | .nil => none
  | .node _ v _ _ => some v
theorem T.get_eq (k : List UInt8) : ∀ (t : T), Rises t.toL → t.get k = getL k t.toL
  | .nil, _ => rfl
  | .node k' v' l r, h => by
    obtain ⟨h1, h2, h3, h4⟩ := rises_node h
    have il := l.get_eq k h1
    have ir := r.get_eq k h2
    unfold T.get T.find
    by_cases c1 : cmpB k k' < 0
    · rw [if_pos c1, T.toL, getL_left, ← il, T.get]
      intro x hx
      rcases List.mem_cons.1 hx with rfl | hx
      · show cmpB k k' ≠ 0; omega
      · have := cmpB_trans _ _ _ c1 (h4 x hx); omega
    · by_cases c2 : 0 < cmpB k k'
      · rw [if_neg c1, if_pos c2, T.toL, getL_append]
        · simp only [getL]
          rw [if_neg (by omega), ← ir, T.get]
        · intro x hx
          have := cmpB_pos.1 (cmpB_trans _ _ _ (h3 x hx) (cmpB_pos.2 c2)); omega
      · rw [if_neg c1, if_neg c2, T.toL, getL_append]
        · simp only [getL]
          rw [if_pos (by omega)]
        · intro x hx
          have e := cmpB_eq k k' (by omega)
          have := h3 x hx
          have := cmpB_flip x.1 k'
          rw [e]; omega
theorem getL_mem (k v : List UInt8) : ∀ (l : PL), getL k l = some v → ∃ k', (k', v) ∈ l
  | [], h => by simp [getL] at h
  | (a, b) :: r, h => by
    simp only [getL] at h
    split at h
    · cases h; exact ⟨a, List.mem_cons_self⟩
    · obtain ⟨k', h'⟩ := getL_mem k v r h
      exact ⟨k', List.mem_cons_of_mem _ h'⟩
theorem insL_length (k v : List UInt8) : ∀ (l : PL), (insL k v l).length ≤ l.length + 1
  | [] => by simp [insL]
  | (a, b) :: r => by
    have := insL_length k v r
    simp only [insL]
    split
    · simp
    · split <;> simp <;> omega
end Go.Proofs.Ytmlcnfomiemdpaa
