/- What begins with some bytes stands from them on, ahead of their end. No program in sight. -/
import Derived.Test.YtomclldnoockcaaOrderP
namespace Go.Proofs.Ytomclldnoockcaa

def endQ : List UInt8 → Option (List UInt8)
  | [] => none
  | c :: r => match endQ r with
    | some e => some (c :: e)
    | none => if c = 255 then none else some [c + 1]
theorem endR_snoc (c : UInt8) : ∀ (s : List UInt8), endR (s ++ [c]) = match endR s with | some e => some (e ++ [c]) | none => if c = 255 then none else some [c + 1]
  | [] => by simp [endR]
  | d :: s => by
    simp only [List.cons_append, endR]
    by_cases h : d = 255
    · rw [if_pos h, if_pos h]; exact endR_snoc c s
    · rw [if_neg h, if_neg h]; rfl
theorem endP_eq : ∀ (b : List UInt8), endP b = endQ b
  | [] => rfl
  | c :: r => by
    have ih := endP_eq r
    unfold endP at ih ⊢
    rw [List.reverse_cons, endR_snoc, endQ, ← ih]
    cases endR r.reverse with
    | none => simp only [Option.map_none]; split <;> simp
    | some e => simp
theorem u8_lt (c d : UInt8) : c < d ↔ c.toNat < d.toNat := UInt8.lt_iff_toNat_lt
theorem u8_succ {c : UInt8} (h : c ≠ 255) : (c + 1).toNat = c.toNat + 1 := by
  have h1 : c.toNat ≠ 255 := fun e => h (by rw [← UInt8.toNat_inj]; exact e)
  have := c.toNat_lt
  rw [UInt8.toNat_add]; simp; omega
theorem cmp_nil (y : List UInt8) : 0 ≤ Lib.compareBytes y [] := by cases y <;> simp [Lib.compareBytes]
/-- The law of OrderEnds. -/
theorem begins_iff : ∀ (b x : List UInt8), b <+: x ↔ (Lib.compareBytes b x ≤ 0 ∧ ∀ e, endQ b = some e → Lib.compareBytes x e < 0)
  | [], x => by
    have : Lib.compareBytes [] x ≤ 0 := by cases x <;> simp [Lib.compareBytes]
    simp [endQ, this]
  | c :: r, [] => by simp [Lib.compareBytes]
  | c :: r, d :: y => by
    have ih := begins_iff r y
    rw [List.cons_prefix_cons]
    by_cases hcd : c < d
    · have hne : c ≠ d := fun e => by subst e; rw [u8_lt] at hcd; omega
      have hdc : ¬ d < c := by rw [u8_lt] at *; omega
      have hc255 : c ≠ 255 := fun e => by subst e; rw [u8_lt] at hcd; have := d.toNat_lt; simp at hcd; omega
      refine ⟨fun h => absurd h.1 hne, fun h => ?_⟩
      exfalso
      have h2 := h.2
      simp only [endQ] at h2
      cases hq : endQ r with
      | some e =>
        rw [hq] at h2
        have := h2 _ rfl
        simp [Lib.compareBytes, hdc, hcd] at this
      | none =>
        rw [hq] at h2
        simp only [if_neg hc255] at h2
        have h3 := h2 _ rfl
        have e1 := u8_succ hc255
        have h4 : ¬ d < c + 1 := by rw [u8_lt] at *; omega
        have h5 := cmp_nil y
        simp only [Lib.compareBytes, if_neg h4] at h3
        split at h3 <;> omega
    · by_cases hdc : d < c
      · have hne : c ≠ d := fun e => by subst e; rw [u8_lt] at hdc; omega
        refine ⟨fun h => absurd h.1 hne, fun h => ?_⟩
        have := h.1
        simp [Lib.compareBytes, hcd, hdc] at this
      · have e : c = d := by rw [← UInt8.toNat_inj]; rw [u8_lt] at *; omega
        subst e
        have hcmp : ∀ (l m : List UInt8), Lib.compareBytes (c :: l) (c :: m) = Lib.compareBytes l m := fun l m => by simp [Lib.compareBytes]
        rw [hcmp, ih]
        simp only [true_and, endQ]
        cases hq : endQ r with
        | some e => simp [hcmp]
        | none =>
          by_cases h255 : c = 255
          · simp [h255]
          · have e1 := u8_succ h255
            have h4 : c < c + 1 := by rw [u8_lt]; omega
            simp [h255, Lib.compareBytes, h4]
end Go.Proofs.Ytomclldnoockcaa
