/- Numbers, texts and values as bytes, as plain data. No program in sight. -/
import Derived.Test.YtomclldnoockcaaValueP
import Derived.Laws.Bits64
namespace Go.Proofs.Ytomclldnoockcaa

/-- A number's eight bytes. -/
def dig8 (v : Nat) (i : Nat) : UInt8 := UInt8.ofNat (v / 2 ^ (56 - 8 * i))
def u64 (n : Int) : Nat := ((n + 9223372036854775808) % 18446744073709551616).toNat
def num8 (n : Int) : List UInt8 := (List.range 8).map (dig8 (u64 n))
theorem num8_length (n : Int) : (num8 n).length = 8 := by simp [num8]
/-- A text's bytes: 0 as 0 255, and 0 1 behind. -/
def esc1 (c : UInt8) : List UInt8 := if c = 0 then [0, 255] else [c]
def esc (s : List UInt8) : List UInt8 := s.flatMap esc1 ++ [0, 1]
def body (v : V) : List UInt8 := if v.kind = 2 then [UInt8.ofNat v.n.toNat] else if v.kind = 3 ∨ v.kind = 4 ∨ v.kind = 7 then esc v.s else num8 v.n
def encV (v : V) : List UInt8 := UInt8.ofNat v.kind.toNat :: body v
/-- The end of a prefix. -/
def endR : List UInt8 → Option (List UInt8)
  | [] => none
  | c :: r => if c = 255 then endR r else some ((c + 1) :: r)
def endP (b : List UInt8) : Option (List UInt8) := (endR b.reverse).map List.reverse
theorem xor_top (a : Nat) (ha : a < 2 ^ 64) : a ^^^ 2 ^ 63 = (2 ^ 63 + a) % 2 ^ 64 := by
  apply Nat.eq_of_testBit_eq
  intro i
  rw [Nat.testBit_xor, Nat.testBit_mod_two_pow, Nat.testBit_two_pow]
  rcases Nat.lt_trichotomy i 63 with h | h | h
  · rw [Nat.testBit_two_pow_add_gt h]
    simp [show ¬ 63 = i by omega, show i < 64 by omega]
  · subst h
    rw [Nat.testBit_two_pow_add_eq]
    simp
  · have : a.testBit i = false := Nat.testBit_lt_two_pow (Nat.lt_of_lt_of_le ha (Nat.pow_le_pow_right (by decide) (by omega)))
    simp [this, show ¬ 63 = i by omega]
    omega
theorem xor_u64 (n : Int) : bits .xor .u64 (IntKind.u64.wrap n) 9223372036854775808 = (u64 n : Int) := by
  rw [IntKind.wrap_u64]
  obtain ⟨m, hm⟩ := Int.eq_ofNat_of_zero_le (show 0 ≤ n % 18446744073709551616 by omega)
  rw [hm]
  have hml : m < 18446744073709551616 := by omega
  have h := bits_xor_u64_nat m 9223372036854775808 hml (by decide)
  have e : ((9223372036854775808 : Nat) : Int) = 9223372036854775808 := rfl
  rw [e] at h
  have hx : m ^^^ 9223372036854775808 = (9223372036854775808 + m) % 18446744073709551616 := xor_top m hml
  rw [h, hx]
  unfold u64
  omega
theorem u64_lt (n : Int) : u64 n < 18446744073709551616 := by unfold u64; omega

theorem endR_all : ∀ (r : List UInt8), (∀ c ∈ r, c = 255) → endR r = none
  | [], _ => rfl
  | c :: r, h => by simp only [endR]; rw [if_pos (h c (List.mem_cons_self ..)), endR_all r (fun x hx => h x (List.mem_cons_of_mem _ hx))]
theorem endR_skip : ∀ (r t : List UInt8), (∀ c ∈ r, c = 255) → endR (r ++ t) = endR t
  | [], _, _ => rfl
  | c :: r, t, h => by simp only [List.cons_append, endR]; rw [if_pos (h c (List.mem_cons_self ..)), endR_skip r t (fun x hx => h x (List.mem_cons_of_mem _ hx))]
theorem endP_none (l : List UInt8) (h : ∀ c ∈ l, c = 255) : endP l = none := by
  unfold endP; rw [endR_all _ (fun c hc => h c (List.mem_reverse.1 hc))]; rfl
theorem endP_some (l : List UInt8) (n : Nat) (hn : n < l.length) (h : ∀ i (hi : i < l.length), n < i → l[i] = 255) (hc : l[n] ≠ 255) : endP l = some (l.take n ++ [l[n] + 1]) := by
  have hl : l.reverse = (l.drop (n + 1)).reverse ++ (l[n] :: (l.take n).reverse) := by
    conv => lhs; rw [← List.take_append_drop n l, List.drop_eq_getElem_cons hn]
    simp
  unfold endP
  rw [hl, endR_skip _ _ (fun c hc => ?_), endR, if_neg hc]
  · simp
  · obtain ⟨i, hi, rfl⟩ := List.getElem_of_mem (List.mem_reverse.1 hc)
    rw [List.getElem_drop]
    exact h _ _ (by omega)
end Go.Proofs.Ytomclldnoockcaa
