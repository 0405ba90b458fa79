/- SchemaHolds: the walk. -/
import Derived.Test.YtkcpanaojehgiaaHldP
import Derived.Test.YtkcpanaojehgiaaHldT
namespace Go.Proofs.Ytkcpanaojehgiaa
open Go.RowKit
set_option linter.unusedVariables false
set_option linter.unusedSimpArgs false

set_option maxRecDepth 100000 in
set_option maxHeartbeats 8000000 in
theorem SchemaHolds_any (lo hi : Nat) (l : List Ft) (v : Value) (w : World) (hv : Fts lo hi w v l) (hhi : hi ≤ w.heap.size) (hlen : l.length ≤ 2000000000000) (hl : ∀ x ∈ l, x.v.s.length ≤ 9223372036854775807) (hs : ∀ x ∈ l, x.sp.length ≤ 1000000000)
    (h64 : ∀ x ∈ l, ∀ s ∈ x.sp, -9223372036854775808 ≤ s.f ∧ s.f ≤ 9223372036854775807 ∧ -9223372036854775808 ≤ s.t ∧ s.t ≤ 9223372036854775807)
    (R : Ending → World → Prop) (hR : ∀ w', Below w.heap.size w w' → R (.returned (.bool true)) w') : Calls Try.prog 5 #[v] w R := by
  have HR := Lib.hid hR
  have Hv := Lib.hid hv
  have Hl := Lib.hid hl
  have Hs := Lib.hid hs
  have He := Lib.hid (holds_eq h64)
  obtain ⟨av, cv, rfl, -, -, -, -⟩ := hv.form
  clear hR hv hl hs h64
  go_enter Try.func5, Try.ntmps5
  go_wp2_with fail
  refine fGreat_any lo hi l _ w Hv.out hhi _ (fun w1 hB1 => ?_)
  have HB1 := Lib.hid hB1
  have hz1 := hB1.size
  clear hB1
  cases hg : greatB l
  case true =>
    have hr := HR.out w1 HB1.out
    go_wp2_with fail
    first | exact hr | exact fin hr rfl
  clear hg
  go_wp2_with fail
  refine Holds_any lo hi l _ w1 (Sl.below Hv.out ftE_loc HB1.out hhi) (by omega) hlen Hl.out (fun x hx => by have := Hs.out x hx; omega) _ (fun w2 hB2 => ?_)
  rw [He.out]
  have HB2 := Lib.hid (HB1.out.trans (hB2.mono hz1))
  have hz2 := HB2.out.size
  clear hB2
  go_wp2_with fail
  refine refHolds_any lo hi l _ w2 (Sl.below Hv.out ftE_loc HB2.out hhi) (by omega) hlen Hl.out Hs.out _ (fun w3 hB3 => ?_)
  have hr := HR.out w3 (HB2.out.trans (hB3.mono hz2))
  clear hB3
  generalize holdsR l = h at *
  go_wp2_with fail
  first | exact hr | exact fin hr rfl | exact fin hr (by simp)
end Go.Proofs.Ytkcpanaojehgiaa
