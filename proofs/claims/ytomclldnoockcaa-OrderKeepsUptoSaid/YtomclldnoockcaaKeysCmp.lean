/- How parts stand, by the document. -/
import Derived.Test.YtomclldnoockcaaCompare
import Derived.Test.YtomclldnoockcaaGreat
import Derived.Test.YtomclldnoockcaaKeepsP
namespace Go.Proofs.Ytomclldnoockcaa
open Go.RowKit

theorem cmpK_drop (a b : List Pt) (k : Nat) (h1 : k < a.length) (h2 : k < b.length) : cmpK (a.drop k) (b.drop k) = thn (cmpP a[k] b[k]) (cmpK (a.drop (k + 1)) (b.drop (k + 1))) := by
  rw [List.drop_eq_getElem_cons h1, List.drop_eq_getElem_cons h2]; rfl
theorem cmpK_end (a b : List Pt) (k : Nat) (h : a.length ≤ k ∨ b.length ≤ k) : cmpK (a.drop k) (b.drop k) = 0 := by
  rcases h with h | h
  · rw [List.drop_eq_nil_of_le h]; cases b.drop k <;> rfl
  · rw [List.drop_eq_nil_of_le h]; cases a.drop k <;> rfl

set_option maxRecDepth 100000 in
set_option maxHeartbeats 4000000 in
theorem refCompareK_any (lo hi : Nat) (a b : List Pt) (v1 v2 : Value) (w : World) (hv1 : Pts lo hi w v1 a) (hv2 : Pts lo hi w v2 b) (hhi : hi ≤ w.heap.size) (hsa : ∀ p ∈ a, p.v.s.length ≤ 9223372036854775807) (hsb : ∀ p ∈ b, p.v.s.length ≤ 9223372036854775807)
    (R : Ending → World → Prop) (hR : ∀ w', Below w.heap.size w w' → R (.returned (.int .i64 (cmpK a b))) w') : Calls Try.prog 24 #[v1, v2] w R := by
  obtain ⟨ao, cap, rfl, hl1, hl2, -, hc⟩ := hv1.form
  obtain ⟨ao2, cap2, rfl, hl3, hl4, -, hc2⟩ := hv2.form
  have Hc := Lib.hid hc
  have Hc2 := Lib.hid hc2
  have Hsa := Lib.hid hsa
  have Hsb := Lib.hid hsb
  have HR := Lib.hid hR
  clear hc hc2 hsa hsb hR
  go_enter Try.func24, Try.ntmps24
  go_wp2_with fail
  go_loopw [5] (fun t5 wr => ∃ k : Nat, k ≤ a.length ∧ k ≤ b.length ∧ t5 = .int .i64 k ∧ cmpK a b = cmpK (a.drop k) (b.drop k) ∧ Below w.heap.size w wr) (fun t5 _ => a.length - (intOf t5).toNat)
  case atStart => exact ⟨0, Nat.zero_le _, Nat.zero_le _, rfl, rfl, Below.refl _ _⟩
  case round =>
    obtain ⟨k, hka, hkb, rfl, hd, hB⟩ := hrel
    have Hd := Lib.hid hd
    clear hd
    by_cases hla : k < a.length
    · by_cases hlb : k < b.length
      · obtain ⟨b1, off1, rfl, p1, p2, q1⟩ := Hc.out k hla
        obtain ⟨b2, off2, rfl, p3, p4, q2⟩ := Hc2.out k hlb
        obtain ⟨cs, _, hcs, e1⟩ := q1 k hla
        obtain ⟨cs2, _, hcs2, e2⟩ := q2 k hlb
        subst e1 e2
        obtain ⟨c0, c1, c2, c3, c4⟩ := (hcs.agree (.below hB hhi) p1 p2).c5
        obtain ⟨d0, d1, d2, d3, d4⟩ := (hcs2.agree (.below hB hhi) p3 p4).c5
        have Hk := Lib.hid (cmpK_drop a b k hla hlb)
        have hsa := Hsa.out _ (List.getElem_mem hla)
        have hsb := Hsb.out _ (List.getElem_mem hlb)
        clear hcs hcs2 q1 q2
        cases his : a[k].is
        · rw [his] at c0
          have Hp := Lib.hid (show cmpP a[k] b[k] = icmp a[k].n b[k].n by simp [cmpP, his])
          clear his d0 c2 c3 c4 d2 d3 d4
          generalize a[k] = x at *
          generalize b[k] = y at *
          by_cases hxy : x.n < y.n
          · have hr : ∀ W, Below w.heap.size w W → R (.returned (.int .i64 (-1))) W := fun W h => fin (HR.out W h) (by rw [Hd.out, Hk.out, Hp.out, icmp_lt hxy]; rfl)
            go_wp2_with fail
            go_quiet (fail)
            go_wp2_with fail
            all_goals first | exact drewN hB _ | exact fin (hr _ (drewN hB _)) rfl
          by_cases hyx : y.n < x.n
          · have hr : ∀ W, Below w.heap.size w W → R (.returned (.int .i64 1)) W := fun W h => fin (HR.out W h) (by rw [Hd.out, Hk.out, Hp.out, icmp_gt hyx]; rfl)
            go_wp2_with fail
            go_quiet (fail)
            go_wp2_with fail
            go_quiet (fail)
            go_wp2_with fail
            all_goals first | exact drewN hB _ | exact drewN (drewN hB _) _ | exact fin (hr _ (drewN (drewN hB _) _)) rfl
          · have Hz := Lib.hid (show icmp x.n y.n = 0 by simp [icmp, hxy, hyx])
            go_wp2_with fail
            go_quiet (fail)
            go_wp2_with fail
            go_quiet (fail)
            go_wp2_with fail
            go_roundw
            case rel => exact ⟨k + 1, by omega, by omega, by go_num, by rw [Hd.out, Hk.out, Hp.out, Hz.out, thn_zero], by repeat (first | exact hB | apply drewN)⟩
            case measure => simp [intOf]; omega
        · rw [his] at c0
          have Hp := Lib.hid (show cmpP a[k] b[k] = cmpV a[k].v b[k].v by simp [cmpP, his])
          clear his d0 c1 d1
          generalize a[k] = x at *
          generalize b[k] = y at *
          go_wp2_with fail
          refine wp_region_still_tail 10 (by kernel_rfl) (by kernel_rfl) ?_
          change wpStill _ _ (World.drew _) (fun a' => wpList _ _ _ _ a' (World.drew _)) _ _
          simp only [List.take_succ_cons, List.take_zero, List.drop_succ_cons, List.drop_zero]
          repeat still_step
          refine wpStill_nil ?_
          go_wp2_with fail
          refine refCompare_any x.v y.v _ hsa hsb _ fun w3 hB3 => ?_
          have hB4 : Below w.heap.size w w3 := hB.trans (((Below.refl _ wr).drew.trans hB3).mono hB.size)
          clear hB3 c0 c2 c3 c4 d2 d3 d4
          by_cases hz : cmpV x.v y.v = 0
          · have Hz := Lib.hid hz
            rw [hz]
            clear hz
            go_wp2_with fail
            go_roundw
            case rel => exact ⟨k + 1, by omega, by omega, by go_num, by rw [Hd.out, Hk.out, Hp.out, Hz.out, thn_zero], hB4⟩
            case measure => simp [intOf]; omega
          · have hr : R (.returned (.int .i64 (cmpV x.v y.v))) w3 := fin (HR.out w3 hB4) (by rw [Hd.out, Hk.out, Hp.out, thn_ne hz])
            go_wp2_with fail
            all_goals first | exact hr | exact fin hr rfl
      · have hr : R (.returned (.int .i64 0)) wr := fin (HR.out wr hB) (by rw [Hd.out, cmpK_end a b k (by omega)])
        go_wp2_with fail
        all_goals first | exact hr | exact fin hr rfl
    · have hr : R (.returned (.int .i64 0)) wr := fin (HR.out wr hB) (by rw [Hd.out, cmpK_end a b k (by omega)])
      go_wp2_with fail
      all_goals first | exact hr | exact fin hr rfl
end Go.Proofs.Ytomclldnoockcaa
