/- Parts of a law: are they too great? -/
import Derived.Test.YtomclldnoockcaaKeyP
import Derived.Test.YtomclldnoockcaaBase
import Derived.Test.YtomclldnoockcaaProg
namespace Go.Proofs.Ytomclldnoockcaa
open Go.RowKit
abbrev Pts := Sl (flat Pt.enc) 5

set_option maxRecDepth 100000 in
set_option maxHeartbeats 2000000 in
theorem great_any (lo hi : Nat) (l : List Pt) (v : Value) (w : World) (hv : Pts lo hi w v l) (hs : sumP l ≤ 100000000) (R : Ending → World → Prop)
    (hR : R (.returned (.bool (decide (5000 < sumP l)))) w) : Calls Try.prog 12 #[v] w R := by
  obtain ⟨ao, cap, rfl, hl1, hl2, -, hc⟩ := hv.form
  have Hc := Lib.hid hc
  have hll := sumP_length l
  have HR := Lib.hid hR
  clear hc hR
  go_enter Try.func12, Try.ntmps12
  go_wp2
  go_loopw [3, 4] (fun t3 t4 wr => ∃ k n : Nat, k ≤ l.length ∧ t4 = .int .i64 k ∧ t3 = .int .i64 n ∧ n = sumP (l.take k) ∧ wr = w) (fun _ t4 _ => l.length - (intOf t4).toNat)
  case atStart => exact ⟨0, 0, Nat.zero_le _, rfl, rfl, rfl, rfl⟩
  case round =>
    obtain ⟨k, n, hk, rfl, rfl, hn, rfl⟩ := hrel
    have hn2 : n ≤ 100000000 := by have := sumP_take_le l k; omega
    have Hn := Lib.hid hn
    clear hn
    by_cases hlt : k < l.length
    · obtain ⟨b, off, rfl, hb1, hb2, hcc⟩ := Hc.out k hlt
      obtain ⟨cs, -, hcs, he⟩ := hcc k hlt
      subst he
      obtain ⟨c0, c1, c2, c3, c4⟩ := hcs.c5
      have hp := sumP_part l k hlt
      have hst := sumP_take_succ l k hlt
      rw [← Hn.out] at hst
      have Hst := Lib.hid hst
      have hsl : l[k].v.s.length ≤ 100000000 := by omega
      clear hcs hcc hst hp
      go_wp2
      go_roundw
      case rel => exact ⟨k + 1, n + 10 + l[k].v.s.length, by omega, by go_num, by go_num, Hst.out.symm, by first | rfl | trivial⟩
      case measure => simp [intOf]; omega
    · have e := Hn.out
      rw [List.take_of_length_le (by omega)] at e
      have hr := HR.out
      rw [← e] at hr
      go_wp2
      first | exact hr | exact fin hr (by simp; omega)
end Go.Proofs.Ytomclldnoockcaa
