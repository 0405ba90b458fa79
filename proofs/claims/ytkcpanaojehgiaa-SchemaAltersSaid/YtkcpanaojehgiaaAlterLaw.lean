/- The law SchemaAlters: its walk over the contracts of both Alters. -/
import Derived.Test.YtkcpanaojehgiaaAlter
namespace Go.Proofs.Ytkcpanaojehgiaa
open Go.RowKit

set_option maxRecDepth 100000 in
set_option maxHeartbeats 400000 in
theorem SchemaAlters_any (lo hi : Nat) (v1 v2 : Value) (old now : List Attr) (w : World) (h1 : Attrs lo hi w v1 old) (h2 : Attrs lo hi w v2 now) (hhi : hi ≤ w.heap.size)
    (R : Ending → World → Prop) (hR : ∀ w', Below w.heap.size w w' → R (.returned (.bool true)) w') :
    Calls Try.prog 3 #[v1, v2] w R := by
  have H1 := Lib.hid h1
  have H2 := Lib.hid h2
  obtain ⟨ao, cap, rfl, hl1, hl2, _, hc⟩ := h1.form
  obtain ⟨ao2, cap2, rfl, hl3, hl4, _, -⟩ := h2.form
  have Hc := Lib.hid hc
  clear h1 h2 hc
  by_cases c1 : 100 < old.length
  · go_enter Try.func3, Try.ntmps3
    go_wp2
    exact Below.refl _ _
  by_cases c2 : 100 < now.length
  · go_enter Try.func3, Try.ntmps3
    go_wp2
    exact Below.refl _ _
  go_enter Try.func3, Try.ntmps3
  go_wp2
  go_loopw [5] (fun t5 wr => ∃ k : Nat, k ≤ old.length ∧ t5 = .int .i64 k ∧ Below w.heap.size w wr) (fun t5 _ => old.length - (intOf t5).toNat)
  case atStart => exact ⟨0, Nat.zero_le _, rfl, Below.refl _ _⟩
  case round =>
    obtain ⟨k, hk, rfl, hB⟩ := hrel
    by_cases hlt : k < old.length
    · obtain ⟨b, off, rfl, hb1, hb2, hcc⟩ := Hc.out k hlt
      obtain ⟨cs, _, hcs, rfl⟩ := hcc k hlt
      obtain ⟨h0, h1, h2, h3, h4, h5, h6⟩ := (hcs.agree (.below hB hhi) hb1 hb2).c7
      clear hcc hcs h0 h2 h3 h4 h5 h6
      generalize hx : old[k] = x at *
      clear hx
      go_wp2_with fail
      · exact hB
      · go_roundw
        case rel => exact ⟨k + 1, by omega, by go_num, hB⟩
        case measure => simp [intOf]; omega
    · go_wp2_with fail
      refine Alter_any lo hi _ _ old now _ (H1.out.below Attrs.loc hB hhi) (H2.out.below Attrs.loc hB hhi) (Nat.le_trans hhi hB.size) _ ?_
      intro w1 hB1
      have hB2 := hB.trans (hB1.mono hB.size)
      go_wp2_with fail
      refine refAlter_any lo hi _ _ old now _ (H1.out.below Attrs.loc hB2 hhi) (H2.out.below Attrs.loc hB2 hhi) (Nat.le_trans hhi hB2.size) _ ?_
      intro w2 hB3
      have hB4 := hB2.trans (hB3.mono hB2.size)
      generalize altered old now = n at *
      go_wp2_with fail
      refine Alter_any lo hi _ _ old old _ (H1.out.below Attrs.loc hB4 hhi) (H1.out.below Attrs.loc hB4 hhi) (Nat.le_trans hhi hB4.size) _ ?_
      intro w3 hB5
      have hB6 := hB4.trans (hB5.mono hB4.size)
      have e : altered old old = 0 := by
        unfold altered
        rw [if_pos]
        rw [List.all_eq_true]
        intro x hx
        rw [List.any_eq_true]
        exact ⟨x, hx, by simp [Attr.keeps]⟩
      rw [e]
      go_wp2
      exact hB6
end Go.Proofs.Ytkcpanaojehgiaa
