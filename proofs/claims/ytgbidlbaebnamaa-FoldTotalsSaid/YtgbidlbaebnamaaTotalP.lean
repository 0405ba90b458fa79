/- The arithmetic of fold.Total and of the document's: two words, and two halves. No program in sight. -/
import Derived.Test.YtgbidlbaebnamaaValueP
import Derived.Laws.Externs
namespace Go.Proofs.Ytgbidlbaebnamaa
open Go.RowKit

def W64 : Int := 18446744073709551616
def addLo (x y c : Int) : Int := (x + y + c) % W64
def addHi (x y c : Int) : Int := (x + y + c) / W64
def up (n : Int) : Int := IntKind.u64.wrap n
def sg (n : Int) : Int := IntKind.u64.wrap (n / 9223372036854775808)

theorem up_bd (n : Int) : 0 ≤ up n ∧ up n < W64 := by
  simp only [up, IntKind.wrap, IntKind.bits, IntKind.signed, W64]; simp; omega
theorem sg_bd (n : Int) : 0 ≤ sg n ∧ sg n < W64 := by
  simp only [sg, IntKind.wrap, IntKind.bits, IntKind.signed, W64]; simp; omega
theorem addLo_bd (x y c : Int) : 0 ≤ addLo x y c ∧ addLo x y c < W64 := by unfold addLo W64; omega
theorem addHi_bd {x y c : Int} (hx : 0 ≤ x) (hx' : x < W64) (hy : 0 ≤ y) (hy' : y < W64) (hc : 0 ≤ c) (hc' : c ≤ 1) : 0 ≤ addHi x y c ∧ addHi x y c ≤ 1 := by unfold addHi; unfold W64 at *; omega

/-- Two words say a sum, but for multiples of 2^128. -/
def Says (lo hi s : Int) : Prop := 0 ≤ lo ∧ lo < W64 ∧ 0 ≤ hi ∧ hi < W64 ∧ ∃ q : Int, lo + hi * W64 + q * (W64 * W64) = s
theorem says_zero : Says 0 0 0 := by unfold Says W64; exact ⟨by omega, by omega, by omega, by omega, 0, by omega⟩
theorem says_add {lo hi s n : Int} (h : Says lo hi s) (h1 : -9223372036854775808 ≤ n) (h2 : n ≤ 9223372036854775807) :
    Says (addLo lo (up n) 0) (addLo hi (sg n) (addHi lo (up n) 0)) (s + n) := by
  obtain ⟨a, b, c, d, q, e⟩ := h
  refine ⟨(addLo_bd _ _ _).1, (addLo_bd _ _ _).2, (addLo_bd _ _ _).1, (addLo_bd _ _ _).2, ?_⟩
  have hu : up n = if 0 ≤ n then n else n + 18446744073709551616 := by
    simp only [up, IntKind.wrap, IntKind.bits, IntKind.signed]; simp; split <;> omega
  have hs : sg n = if 0 ≤ n then 0 else 18446744073709551615 := by
    simp only [sg, IntKind.wrap, IntKind.bits, IntKind.signed]; simp; split <;> omega
  by_cases hn : 0 ≤ n
  · rw [if_pos hn] at hu hs
    exact ⟨q + (hi + sg n + addHi lo (up n) 0) / W64, by rw [hu, hs]; unfold addLo addHi W64 at *; omega⟩
  · rw [if_neg hn] at hu hs
    exact ⟨q + (hi + sg n + addHi lo (up n) 0) / W64 - 1, by rw [hu, hs]; unfold addLo addHi W64 at *; omega⟩

def inI64 (n : Int) : Prop := -9223372036854775808 ≤ n ∧ n ≤ 9223372036854775807
instance (n : Int) : Decidable (inI64 n) := by unfold inI64; infer_instance
/-- What the two words tell: a number, where the sum is one. -/
theorem says_number {lo hi s : Int} (h : Says lo hi s) (h1 : -9223372036854775808 * 1000000 ≤ s) (h2 : s ≤ 9223372036854775808 * 1000000) :
    (hi = sg (wrap64 lo) ↔ inI64 s) ∧ (inI64 s → wrap64 lo = s) := by
  obtain ⟨a, b, c, d, q, e⟩ := h
  by_cases hl : lo < 9223372036854775808
  · have hw : wrap64 lo = lo := by unfold wrap64; omega
    have hs : sg (wrap64 lo) = 0 := by
      rw [hw]; simp only [sg, IntKind.wrap, IntKind.bits, IntKind.signed]; simp; omega
    rw [hs, hw]
    unfold inI64 W64 at *
    constructor <;> omega
  · have hw : wrap64 lo = lo - 18446744073709551616 := by unfold wrap64 W64 at *; omega
    have hs : sg (wrap64 lo) = 18446744073709551615 := by
      rw [hw]; simp only [sg, IntKind.wrap, IntKind.bits, IntKind.signed]; simp; unfold W64 at *; omega
    rw [hs, hw]
    unfold inI64 W64 at *
    constructor <;> omega

/-- The sum of values, if all are numbers and it is one. -/
def total (l : List V) : Option Int :=
  if l.all (fun v => v.kind == 1) then (if inI64 ((l.map V.n).sum) then some ((l.map V.n).sum) else none) else none
def V.ok (v : V) : Prop := inI64 v.n ∧ inI64 v.kind ∧ (v.s.length : Int) ≤ 9223372036854775807
theorem sum_bd : ∀ (l : List V), (∀ v ∈ l, v.ok) → -9223372036854775808 * (l.length : Int) ≤ (l.map V.n).sum ∧ (l.map V.n).sum ≤ 9223372036854775808 * (l.length : Int)
  | [], _ => by simp
  | v :: l, h => by
    have h1 := (h v (List.mem_cons_self ..)).1
    have h2 := sum_bd l (fun x hx => h x (List.mem_cons_of_mem _ hx))
    unfold inI64 at h1
    simp only [List.map_cons, List.sum_cons, List.length_cons]
    push_cast
    omega
end Go.Proofs.Ytgbidlbaebnamaa
