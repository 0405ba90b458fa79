/- Plain law of TreeStays; Get by the list. -/
import Derived.Test.YtmlcnfomiemdpaaTreeOr
namespace Go.Proofs.Ytmlcnfomiemdpaa
open Go.RowKit
set_option linter.unusedVariables false
set_option linter.unusedSimpArgs false

theorem getL_no (k : List UInt8) : ∀ (l : PL), getL k l = none → ∀ x ∈ l, cmpB k x.1 ≠ 0
  | [], _, x, hx => by cases hx
  | (a, b) :: r, h, x, hx => by
    simp only [getL] at h
    split at h
    · cases h
    · rename_i hne
      rcases List.mem_cons.1 hx with rfl | hx
      · exact hne
      · exact getL_no k r h x hx
theorem delL_insL (k v : List UInt8) : ∀ (l : PL), delL k (insL k v l) = delL k l
  | [] => by simp [insL, delL, cmpB_self]
  | (a, b) :: r => by
    simp only [insL]
    split
    · rw [delL_cons, if_neg (by simp [cmpB_self])]
    · split
      · rw [delL_cons, delL_cons, delL_insL k v r]
      · rename_i c1 c2
        have e : cmpB k a = 0 := by omega
        rw [delL_cons, delL_cons, if_neg (by simp [cmpB_self]), if_neg (by simp [e])]
theorem getL_delL (k : List UInt8) (l : PL) : getL k (delL k l) = none :=
  getL_none k _ (fun x hx => of_decide_eq_true (List.mem_filter.1 hx).2)
theorem delL_no (k : List UInt8) (l : PL) (h : getL k l = none) : delL k l = l := delL_all k l (getL_no k l h)
theorem cmpB_zero {a b c : List UInt8} (h : cmpB a b = 0) : cmpB a c = cmpB b c := by rw [cmpB_eq a b h]
theorem getL_insL_ne (j k v : List UInt8) (hj : cmpB j k ≠ 0) : ∀ (l : PL), getL j (insL k v l) = getL j l
  | [] => by simp [insL, getL, hj]
  | (a, b) :: r => by
    simp only [insL]
    split
    · simp only [getL]; rw [if_neg hj]
    · split
      · simp only [getL]; rw [getL_insL_ne j k v hj r]
      · rename_i c1 c2
        have e : k = a := cmpB_eq k a (by omega)
        subst e
        simp only [getL]; rw [if_neg hj, if_neg hj]
theorem insL_len (k v : List UInt8) : ∀ (l : PL), Rises l → (insL k v l).length = l.length + (if (getL k l).isSome then 0 else 1)
  | [], _ => by simp [insL, getL]
  | (a, b) :: r, h => by
    have h' := List.pairwise_cons.1 h
    simp only [insL]
    split
    · rename_i c1
      have hn : getL k ((a, b) :: r) = none := getL_none k _ (fun x hx => by
        rcases List.mem_cons.1 hx with rfl | hx
        · simp only at c1 ⊢; omega
        · have h1 : cmpB a x.1 < 0 := h'.1 x hx
          have := cmpB_trans k a x.1 c1 h1
          omega)
      rw [hn]; simp
    · split
      · rename_i c1 c2
        have e : getL k ((a, b) :: r) = getL k r := by simp only [getL]; rw [if_neg (by omega)]
        rw [e, List.length_cons, insL_len k v r h'.2, List.length_cons]; omega
      · rename_i c1 c2
        have e : getL k ((a, b) :: r) = some b := by simp only [getL]; rw [if_pos (by omega)]
        rw [e]; simp
theorem Get_u (lo klo khi n : Nat) (t : T) (k : List UInt8) (p kv : Value) (w : World) (hlo : lo ≤ w.heap.size) (ht : Tr Nn lo w t p) (hk : Bytes klo khi w kv k) (g : Gr t n)
    (d : List UInt8) (b : Bool) (hd : (getL k t.toL).getD [] = d) (hb : (getL k t.toL).isSome = b)
    (R : Ending → World → Prop) (hR : ∀ w' a c, Below w.heap.size w w' → Bytes w.heap.size w'.heap.size w' (.slice a d.length c) d → R (.returned (.tuple #[.slice a d.length c, .bool b])) w') :
    Calls Try.prog 11 #[p, kv] w R := by
  refine Get_any Nn lo klo khi t k p kv w (Nn.lt _) hlo ht hk R (fun hno => ?_) (fun k' v' l r hn hl w' v2 hB ho => ?_) (g.find k)
  · have h1 : t.get k = none := by simp [T.get, hno]
    rw [T.get_eq _ _ g.rises] at h1
    rw [h1] at hd hb
    cases hd
    cases hb
    exact hR w none 0 (Below.refl _ _) (Sl.nil _ _ _ _ _)
  · have h1 : t.get k = some v' := by simp [T.get, hn]
    rw [T.get_eq _ _ g.rises] at h1
    rw [h1] at hd hb
    cases hd
    cases hb
    have hb2 := OwnB.bytes ho
    obtain ⟨a1, c1, rfl, -, -, -⟩ := hb2.form
    exact hR w' a1 c1 hB hb2
end Go.Proofs.Ytmlcnfomiemdpaa
