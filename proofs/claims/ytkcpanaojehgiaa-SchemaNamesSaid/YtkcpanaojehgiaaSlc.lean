/- Pieces of slices: 's[:n]' and 's[n:]'. -/
import Derived.Test.YtkcpanaojehgiaaBase
namespace Go.Proofs.Ytkcpanaojehgiaa
open Go.RowKit
section
variable {P : Program} {α : Type} {E : El α} {size lo hi : Nat} {w : World} {a : Option Addr} {cap : Nat} {xs : List α}
theorem Sl.upTo (h : Sl E size lo hi w (.slice a xs.length cap) xs) (t : TypeId) (ht : P.underlying t = some (.slice (P.elem t))) (hsz : ∀ w, (sizeOf (P.elem t)).run P w = .ok size w) (n : Nat) (hn : n ≤ xs.length) :
    ∃ v1, (∀ w', (Instr.slice t (.slice a xs.length cap) none (some (.int .i64 (n : Int))) none).run P w' = .ok v1 w') ∧ Sl E size lo hi w v1 (xs.take n) := by
  obtain ⟨ao, c, e, h1, h2, h3, h4⟩ := h
  injection e with e1 _ e3
  subst e1 e3
  have hl : (xs.take n).length = n := by rw [List.length_take]; omega
  refine ⟨.slice a n cap, fun w' => ?_, a, cap, by rw [hl], by omega, h2, h3, fun hne => ?_⟩
  · rw [run_slice_h w' t a xs.length cap ht .i64 (n : Int) (by omega) (by omega)]
    have ha : a.map (fun x => x.add 0) = a := by
      cases a with
      | none => rfl
      | some x => obtain ⟨b, o, p⟩ := x; simp [Addr.add]
    simp only [hsz, Result.andThen, sliced, Nat.zero_mul, Nat.sub_zero, Int.toNat_natCast]
    split
    · rfl
    · rw [ha]
  · have hx : xs ≠ [] := fun e => hne (by rw [e]; simp)
    obtain ⟨b, off, e, k1, k2, k3⟩ := h4 hx
    refine ⟨b, off, e, k1, k2, fun k hk => ?_⟩
    rw [hl] at hk
    obtain ⟨cs, c1, c2, c3⟩ := k3 k (by omega)
    exact ⟨cs, c1, c2, by simpa using c3⟩
theorem Sl.fromOn (h : Sl E size lo hi w (.slice a xs.length cap) xs) (t : TypeId) (ht : P.underlying t = some (.slice (P.elem t))) (hsz : ∀ w, (sizeOf (P.elem t)).run P w = .ok size w) (n : Nat) (hn : n ≤ xs.length) :
    ∃ v1, (∀ w', (Instr.slice t (.slice a xs.length cap) (some (.int .i64 (n : Int))) none none).run P w' = .ok v1 w') ∧ Sl E size lo hi w v1 (xs.drop n) := by
  have h0 := h
  obtain ⟨ao, c, e, h1, h2, h3, h4⟩ := h
  injection e with e1 _ e3
  subst e1 e3
  refine ⟨sliced a n xs.length cap size, fun w' => ?_, ?_⟩
  · rw [run_slice_l w' t a xs.length cap ht .i64 (n : Int) (by omega) (by omega)]
    simp only [hsz, Result.andThen, Int.toNat_natCast]
  · by_cases hl : n = xs.length
    · subst hl
      rw [List.drop_length]
      unfold sliced
      rw [Nat.sub_self]
      refine Sl.empty _ _ _ _ _ _ _ (by omega) (fun e => ?_)
      split at e
      · have := h3 e; omega
      · cases a with
        | none => have := h3 rfl; omega
        | some a => cases e
    · have hx : xs ≠ [] := fun e => by subst e; simp at hn hl; omega
      obtain ⟨b, off, e, k1, k2, k3⟩ := h4 hx
      subst e
      unfold sliced
      rw [if_neg (by omega)]
      have := Sl.piece (cap := 0) k3 k1 k2 n (xs.length - n) (cap - n) (by omega) (by omega) (by omega)
      rw [List.take_of_length_le (by rw [List.length_drop]; omega)] at this
      simp only [Option.map_some, Addr.add_lit]
      exact this
end
end Go.Proofs.Ytkcpanaojehgiaa
