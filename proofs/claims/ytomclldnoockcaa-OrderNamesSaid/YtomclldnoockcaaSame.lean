/- Two lists that are the same. -/
import Derived.Test.YtomclldnoockcaaGreat
namespace Go.Proofs.Ytomclldnoockcaa
open Go.RowKit

set_option maxRecDepth 100000 in
set_option maxHeartbeats 4000000 in
theorem Same_any (lo hi : Nat) (l : List Pt) (v1 v2 : Value) (w : World) (hv1 : Pts lo hi w v1 l) (hv2 : Pts lo hi w v2 l) (hhi : hi ≤ w.heap.size) (R : Ending → World → Prop)
    (hR : ∀ w', Below w.heap.size w w' → R (.returned (.bool true)) w') : Calls Try.prog 22 #[v1, v2] w R := by
  obtain ⟨ao, cap, rfl, hl1, hl2, -, hc⟩ := hv1.form
  obtain ⟨ao2, cap2, rfl, hl3, hl4, -, hc2⟩ := hv2.form
  have Hc := Lib.hid hc
  have Hc2 := Lib.hid hc2
  have HR := Lib.hid hR
  clear hc hc2 hR
  go_enter Try.func22, Try.ntmps22
  go_wp2_with fail
  go_loopw [5] (fun t5 wr => ∃ k : Nat, k ≤ l.length ∧ t5 = .int .i64 k ∧ Below w.heap.size w wr) (fun t5 _ => l.length - (intOf t5).toNat)
  case atStart => exact ⟨0, Nat.zero_le _, rfl, Below.refl _ _⟩
  case round =>
    obtain ⟨k, hk, rfl, hB⟩ := hrel
    by_cases hlt : k < l.length
    · obtain ⟨b1, off1, rfl, p1, p2, q1⟩ := Hc.out k hlt
      obtain ⟨b2, off2, rfl, p3, p4, q2⟩ := Hc2.out k hlt
      obtain ⟨cs, _, hcs, e1⟩ := q1 k hlt
      obtain ⟨cs2, _, hcs2, e2⟩ := q2 k hlt
      subst e1 e2
      obtain ⟨c0, c1, c2, c3, c4⟩ := (hcs.agree (.below hB hhi) p1 p2).c5
      obtain ⟨d0, d1, d2, d3, d4⟩ := (hcs2.agree (.below hB hhi) p3 p4).c5
      clear hcs hcs2 q1 q2
      generalize l[k] = x at *
      go_wp2_with fail
      go_quiet (fail)
      go_wp2_with fail
      trace_state
      go_roundw
      case rel => exact ⟨k + 1, by omega, by go_num, drewN hB _⟩
      case measure => simp [intOf]; omega
    · have hr := HR.out wr hB
      go_wp2_with fail
      first | exact hr | exact fin hr rfl
end Go.Proofs.Ytomclldnoockcaa
