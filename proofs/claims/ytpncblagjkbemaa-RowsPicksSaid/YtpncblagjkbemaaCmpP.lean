/- How two values stand is a total order. -/
import Derived.Test.YtpncblagjkbemaaValueP
namespace Go.Proofs.Ytpncblagjkbemaa
set_option linter.unusedVariables false

/-- A comparison that is a total order's. -/
structure Cmp {α : Type} (c : α → α → Int) : Prop where
  three : ∀ a b, c a b = -1 ∨ c a b = 0 ∨ c a b = 1
  zero : ∀ a b, c a b = 0 ↔ a = b
  anti : ∀ a b, c b a = - c a b
  trans : ∀ a b d, c a b < 0 → c b d < 0 → c a d < 0
theorem icmp_cmp : Cmp icmp where
  three a b := by unfold icmp; split <;> (try split) <;> simp
  zero a b := by unfold icmp; split <;> (try split) <;> (constructor <;> intro h <;> omega)
  anti a b := by unfold icmp; repeat' split
                 all_goals omega
  trans a b d h1 h2 := by
    unfold icmp at *
    have : a < b := by
      by_cases h : a < b
      · exact h
      · rw [if_neg h] at h1; split at h1 <;> omega
    have : b < d := by
      by_cases h : b < d
      · exact h
      · rw [if_neg h] at h2; split at h2 <;> omega
    rw [if_pos (by omega)]
    omega
theorem cb_cons (a b : UInt8) (x y : List UInt8) : Lib.compareBytes (a :: x) (b :: y) = if a < b then -1 else if b < a then 1 else Lib.compareBytes x y := rfl
theorem bytes_cmp : Cmp Lib.compareBytes where
  three a b := by
    induction a generalizing b with
    | nil => cases b <;> simp [Lib.compareBytes]
    | cons x a ih =>
      cases b with
      | nil => simp [Lib.compareBytes]
      | cons y b => rw [cb_cons]; split <;> (try split) <;> first | simp | exact ih b
  zero a b := by
    induction a generalizing b with
    | nil => cases b <;> simp [Lib.compareBytes]
    | cons x a ih =>
      cases b with
      | nil => simp [Lib.compareBytes]
      | cons y b =>
        rw [cb_cons, List.cons.injEq]
        split
        · rename_i h
          constructor
          · intro h; omega
          · rintro ⟨rfl, -⟩; exact absurd h (UInt8.lt_irrefl _)
        · split
          · rename_i h
            constructor
            · intro h; omega
            · rintro ⟨rfl, -⟩; exact absurd h (UInt8.lt_irrefl _)
          · rename_i h1 h2
            rw [ih b]
            have : x = y := UInt8.le_antisymm (UInt8.not_lt.1 h2) (UInt8.not_lt.1 h1)
            simp [this]
  anti a b := by
    induction a generalizing b with
    | nil => cases b <;> simp [Lib.compareBytes]
    | cons x a ih =>
      cases b with
      | nil => simp [Lib.compareBytes]
      | cons y b =>
        rw [cb_cons, cb_cons]
        by_cases h1 : x < y
        · rw [if_pos h1, if_neg (fun h => UInt8.lt_irrefl _ (UInt8.lt_trans h1 h)), if_pos h1]; rfl
        · by_cases h2 : y < x
          · rw [if_pos h2, if_neg h1, if_pos h2]
          · rw [if_neg h2, if_neg h1, if_neg h1, if_neg h2, ih b]
  trans a b d h1 h2 := by
    induction a generalizing b d with
    | nil =>
      cases b with
      | nil => simp [Lib.compareBytes] at h1
      | cons y b =>
        cases d with
        | nil => simp [Lib.compareBytes] at h2
        | cons z d => simp [Lib.compareBytes]
    | cons x a ih =>
      cases b with
      | nil => simp [Lib.compareBytes] at h1
      | cons y b =>
        cases d with
        | nil => simp [Lib.compareBytes] at h2
        | cons z d =>
          rw [cb_cons] at *
          by_cases g1 : x < y
          · by_cases g2 : y < z
            · rw [if_pos (UInt8.lt_trans g1 g2)]; omega
            · rw [if_neg g2] at h2
              by_cases g3 : z < y
              · rw [if_pos g3] at h2; omega
              · have : y = z := UInt8.le_antisymm (UInt8.not_lt.1 g3) (UInt8.not_lt.1 g2)
                subst this
                rw [if_pos g1]; omega
          · rw [if_neg g1] at h1
            by_cases g3 : y < x
            · rw [if_pos g3] at h1; omega
            · rw [if_neg g3] at h1
              have : x = y := UInt8.le_antisymm (UInt8.not_lt.1 g3) (UInt8.not_lt.1 g1)
              subst this
              by_cases g2 : x < z
              · rw [if_pos g2]; omega
              · rw [if_neg g2] at h2 ⊢
                by_cases g4 : z < x
                · rw [if_pos g4] at h2; omega
                · rw [if_neg g4] at h2 ⊢
                  exact ih b d h1 h2
theorem cmpV_cases (a b : V) : cmpV a b = if icmp a.kind b.kind ≠ 0 then icmp a.kind b.kind else if icmp a.n b.n ≠ 0 then icmp a.n b.n else Lib.compareBytes a.s b.s := rfl
theorem cmpV_cmp : Cmp cmpV where
  three a b := by
    rw [cmpV_cases]
    split
    · exact icmp_cmp.three _ _
    · split
      · exact icmp_cmp.three _ _
      · exact bytes_cmp.three _ _
  zero a b := by
    rw [cmpV_cases]
    obtain ⟨ak, an, aw⟩ := a
    obtain ⟨bk, bn, bw⟩ := b
    simp only [V.mk.injEq]
    by_cases h1 : icmp ak bk = 0
    · rw [if_neg (by simp [h1])]
      have e1 := (icmp_cmp.zero _ _).1 h1
      by_cases h2 : icmp an bn = 0
      · rw [if_neg (by simp [h2]), bytes_cmp.zero]
        have e2 := (icmp_cmp.zero _ _).1 h2
        simp [e1, e2]
      · rw [if_pos h2]
        constructor
        · intro h; exact absurd h h2
        · rintro ⟨-, rfl, -⟩; exact absurd ((icmp_cmp.zero _ _).2 rfl) h2
    · rw [if_pos h1]
      constructor
      · intro h; exact absurd h h1
      · rintro ⟨rfl, -, -⟩; exact absurd ((icmp_cmp.zero _ _).2 rfl) h1
  anti a b := by
    rw [cmpV_cases, cmpV_cases, icmp_cmp.anti a.kind b.kind, icmp_cmp.anti a.n b.n, bytes_cmp.anti a.s b.s]
    by_cases h1 : icmp a.kind b.kind = 0 <;> by_cases h2 : icmp a.n b.n = 0 <;> simp [h1, h2]
  trans a b d h1 h2 := by
    rw [cmpV_cases] at *
    have key : ∀ x y z : Int, icmp x y < 0 ∨ icmp x y = 0 → icmp y z < 0 ∨ icmp y z = 0 → (icmp x y < 0 ∨ icmp y z < 0) → icmp x z < 0 := by
      intro x y z k1 k2 k3
      rcases k1 with k1 | k1
      · rcases k2 with k2 | k2
        · exact icmp_cmp.trans _ _ _ k1 k2
        · rw [← (icmp_cmp.zero _ _).1 k2]; exact k1
      · rw [(icmp_cmp.zero _ _).1 k1]
        rcases k3 with k3 | k3
        · omega
        · exact k3
    by_cases g1 : icmp a.kind b.kind = 0
    · rw [if_neg (by simp [g1])] at h1
      have e1 := (icmp_cmp.zero _ _).1 g1
      rw [e1]
      by_cases g2 : icmp b.kind d.kind = 0
      · rw [if_neg (by simp [g2])] at h2 ⊢
        by_cases g3 : icmp a.n b.n = 0
        · rw [if_neg (by simp [g3])] at h1
          have e3 := (icmp_cmp.zero _ _).1 g3
          rw [e3]
          by_cases g4 : icmp b.n d.n = 0
          · rw [if_neg (by simp [g4])] at h2 ⊢
            exact bytes_cmp.trans _ _ _ h1 h2
          · rw [if_pos g4] at h2 ⊢
            exact h2
        · rw [if_pos g3] at h1
          by_cases g4 : icmp b.n d.n = 0
          · rw [(icmp_cmp.zero _ _).1 g4] at h1 g3
            rw [if_pos g3]
            exact h1
          · rw [if_pos g4] at h2
            have := icmp_cmp.trans _ _ _ h1 h2
            rw [if_pos (by omega)]
            exact this
      · rw [if_pos g2] at h2 ⊢
        exact h2
    · rw [if_pos g1] at h1
      by_cases g2 : icmp b.kind d.kind = 0
      · rw [(icmp_cmp.zero _ _).1 g2] at h1 g1
        rw [if_pos g1]
        exact h1
      · rw [if_pos g2] at h2
        have := icmp_cmp.trans _ _ _ h1 h2
        rw [if_pos (by omega)]
        exact this
end Go.Proofs.Ytpncblagjkbemaa
