/- Rows in memory: where each header stands. -/
import Derived.Test.YtpncblagjkbemaaRowC
namespace Go.Proofs.Ytpncblagjkbemaa
open Go.RowKit
set_option linter.unusedVariables false
set_option linter.unusedSimpArgs false

/-- Rows in memory that are not none: where each one's header stands. -/
theorem Rws.at {lo hi c : Nat} {w : World} {p : Option Addr} {l : List (List V)} (h : Rws lo hi w (.slice p l.length c) l) (hhi : hi ≤ w.heap.size) (hp : 0 < l.length) :
    ∃ b o, p = some ⟨b, o, none⟩ ∧ b < hi ∧ ∀ j (hj : j < l.length), ∃ q m, (∀ w', Below w.heap.size w w' → w'.cell? ⟨b, o + j, none⟩ = some (.slice q l[j].length m)) ∧ Row1 lo hi w (.slice q l[j].length m) l[j] := by
  obtain ⟨ao', cap', e', -, -, -, hc⟩ := h.form
  injection e' with e1 e2 e3
  subst e1 e3
  obtain ⟨b, o, rfl, h1, h2, hcc⟩ := hc 0 hp
  refine ⟨b, o, rfl, h2, fun j hj => ?_⟩
  obtain ⟨cs, -, hcs, sv, rfl, hr⟩ := hcc j hj
  obtain ⟨q, m, rfl, -, -, -, -⟩ := hr.form
  refine ⟨q, m, fun w' hB => ?_, hr⟩
  have := (hcs.agree (.below hB (Nat.le_refl _)) (Nat.zero_le _) (show b < w.heap.size by omega)).c1
  rw [Nat.mul_one] at this
  exact this
theorem rowsCompareB_any (lo hi lo2 hi2 : Nat) (x y : List V) (vx vy : Value) (w : World) (hx : Row1 lo hi w vx x) (hy : Row1 lo2 hi2 w vy y) (hhi : hi ≤ w.heap.size) (hhi2 : hi2 ≤ w.heap.size) (R : Ending → World → Prop)
    (hR : ∀ w', Below w.heap.size w w' → R (.returned (.int .i64 (cmpR x y))) w') : Calls Try.prog 24 #[vx, vy] w R :=
  rowsCompare_any lo hi lo2 hi2 x y vx vy w hx hy hhi hhi2 R (fun w' h => hR w' h.below)
theorem wrapOk {x : Int} (h1 : 0 ≤ x) (h2 : x ≤ 9223372036854775807) : IntKind.i64.wrap x = x := by
  simp [IntKind.wrap, IntKind.bits, IntKind.signed]; omega
end Go.Proofs.Ytpncblagjkbemaa
