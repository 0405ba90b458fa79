/- The walk of OrderEnds. -/
import Derived.Test.YtomclldnoockcaaAlive
import Derived.Test.YtomclldnoockcaaEnd
import Derived.Test.YtomclldnoockcaaEndsP
namespace Go.Proofs.Ytomclldnoockcaa
open Go.RowKit

theorem strN {w : World} {lo hi : Nat} {v : Value} {l : List UInt8} (h : Bytes lo hi w v l) (n : Nat) (hhi : hi ≤ w.heap.size) : (convert 22 9 v).run Try.prog (w.drewN n) = .ok (.string ⟨l.toArray⟩) (w.drewN n) :=
  str (h.below (flat_loc _) (drewN (Below.refl _ _) n) hhi)

set_option maxRecDepth 100000 in
set_option maxHeartbeats 4000000 in
theorem OrderEnds_any (lo hi : Nat) (v1 v2 : Value) (b x : List UInt8) (w : World) (hv1 : Bytes lo hi w v1 b) (hv2 : Bytes lo hi w v2 x) (hhi : hi ≤ w.heap.size) (R : Ending → World → Prop)
    (hR : ∀ w', Below w.heap.size w w' → R (.returned (.bool true)) w') : Calls Try.prog 3 #[v1, v2] w R := by
  have Hv1 := Lib.hid hv1
  have Hv2 := Lib.hid hv2
  obtain ⟨ao, cap, rfl, hl1, hl2, -, -⟩ := hv1.form
  obtain ⟨ao2, cap2, rfl, hl3, hl4, -, -⟩ := hv2.form
  clear hv1 hv2
  go_enter Try.func3, Try.ntmps3
  go_wp2_with fail
  refine alive_any _ _ fun w1 hB1 => ?_
  by_cases g1 : 5000 < b.length
  · go_wp2_with fail
    all_goals first | exact hB1 | exact fin (hR _ hB1) rfl
  by_cases g2 : 5000 < x.length
  · go_wp2_with fail
    all_goals first | exact hB1 | exact fin (hR _ hB1) rfl
  have hb1 : Bytes lo hi w1 (.slice ao b.length cap) b := Hv1.out.below (flat_loc _) hB1 hhi
  go_wp2_with fail
  have hrow := begins_iff b x
  rw [← endP_eq] at hrow
  refine End_any lo hi _ b _ hb1 (by have := hB1.size; omega) (by omega) _ (fun hn w2 hB2 => ?_) (fun e he w2 v' hB2 ho => ?_)
  · have hB := hB1.trans (hB2.mono hB1.size)
    have hi2 : hi ≤ w2.heap.size := by have := hB.size; omega
    have ib := Hv1.out.below (flat_loc _) hB hhi
    have ix := Hv2.out.below (flat_loc _) hB hhi
    have hs1 := fun n => strN ib n hi2
    rw [hn] at hrow
    by_cases hg : b.length ≤ x.length
    · rcases ix.cases with ⟨rfl, ao3, cap3, e3, -, hn3⟩ | ⟨hp, bb, off, cap3, e3, -, -, hlo3, hhi3, hcc⟩
      · cases List.eq_nil_of_length_eq_zero (show b.length = 0 by simpa using hg)
        have hpc : Bytes lo hi w2 (.slice ao3 0 cap3) [] := e3 ▸ ix
        cases e3
        simp only [List.length_nil] at hs1
        have hs2 := fun n => strN hpc n hi2
        have hle : 0 ≤ cap2 := Nat.zero_le _
        cases ao2 with
        | none =>
          cases hn3 rfl
          go_wp2_with fail
          go_quiet (fail)
          have ib3 := ib.below (flat_loc _) (drewN (Below.refl _ _) nq) hi2
          have ix3 := ix.below (flat_loc _) (drewN (Below.refl _ _) nq) hi2
          go_wp2_with fail
          refine Bytes_any lo hi _ _ _ _ _ ib3 ix3 hi2 _ fun w3 hB3 => ?_
          have hB3' := (drewN hB nq).trans (hB3.mono hB.size)
          by_cases hc : Lib.compareBytes [] [] ≤ 0
          · go_wp2_with fail
            all_goals first | exact hB3' | exact fin (hR _ hB3') (show Value.bool _ = Value.bool _ by simp_all) | skip
          · go_wp2_with fail
            all_goals first | exact hB3' | exact fin (hR _ hB3') (show Value.bool _ = Value.bool _ by simp_all) | skip
        | some at2 =>
          obtain ⟨bb, off, spot⟩ := at2
          go_wp2_with fail
          go_quiet (fail)
          have ib3 := ib.below (flat_loc _) (drewN (Below.refl _ _) nq) hi2
          have ix3 := ix.below (flat_loc _) (drewN (Below.refl _ _) nq) hi2
          go_wp2_with fail
          refine Bytes_any lo hi _ _ _ _ _ ib3 ix3 hi2 _ fun w3 hB3 => ?_
          have hB3' := (drewN hB nq).trans (hB3.mono hB.size)
          by_cases hc : Lib.compareBytes [] [] ≤ 0
          · go_wp2_with fail
            all_goals first | exact hB3' | exact fin (hR _ hB3') (show Value.bool _ = Value.bool _ by simp_all) | skip
          · go_wp2_with fail
            all_goals first | exact hB3' | exact fin (hR _ hB3') (show Value.bool _ = Value.bool _ by simp_all) | skip
      · cases e3
        have hpc := Sl.piece (cap := cap2) hcc hlo3 hhi3 0 b.length cap2 (by omega) (by omega) (by simp only [maxLen]; omega)
        rw [List.drop_zero, Nat.zero_mul, Nat.add_zero] at hpc
        have hs2 := fun n => strN hpc n hi2
        have hle : b.length ≤ cap2 := by omega
        have hpre : (List.take b.length x == b) = decide (b <+: x) := Bool.eq_iff_iff.2 ⟨fun h => decide_eq_true (List.prefix_iff_eq_take.2 (eq_of_beq h).symm), fun h => beq_iff_eq.2 (List.prefix_iff_eq_take.1 (of_decide_eq_true h)).symm⟩
        go_wp2_with fail
        go_quiet (fail)
        have ib3 := ib.below (flat_loc _) (drewN (Below.refl _ _) nq) hi2
        have ix3 := ix.below (flat_loc _) (drewN (Below.refl _ _) nq) hi2
        go_wp2_with fail
        refine Bytes_any lo hi _ _ _ _ _ ib3 ix3 hi2 _ fun w3 hB3 => ?_
        have hB3' := (drewN hB nq).trans (hB3.mono hB.size)
        by_cases hc : Lib.compareBytes b x ≤ 0
        · go_wp2_with fail
          all_goals first | exact hB3' | exact fin (hR _ hB3') (show Value.bool _ = Value.bool _ by rw [hpre]; simp [hrow, hc]) | skip
        · go_wp2_with fail
          all_goals first | exact hB3' | exact fin (hR _ hB3') (show Value.bool _ = Value.bool _ by rw [hpre]; simp [hrow, hc]) | skip
    · have hpre : ¬ b <+: x := fun h => hg h.length_le
      go_wp2_with fail
      go_quiet (fail)
      have ib3 := ib.below (flat_loc _) (drewN (Below.refl _ _) nq) hi2
      have ix3 := ix.below (flat_loc _) (drewN (Below.refl _ _) nq) hi2
      go_wp2_with fail
      refine Bytes_any lo hi _ _ _ _ _ ib3 ix3 hi2 _ fun w3 hB3 => ?_
      have hB3' := (drewN hB nq).trans (hB3.mono hB.size)
      by_cases hc : Lib.compareBytes b x ≤ 0
      · go_wp2_with fail
        all_goals first | exact hB3' | exact fin (hR _ hB3') (show Value.bool _ = Value.bool _ by simp_all) | skip
      · go_wp2_with fail
        all_goals first | exact hB3' | exact fin (hR _ hB3') (show Value.bool _ = Value.bool _ by simp_all) | skip
  · have hB := hB1.trans (hB2.mono hB1.size)
    have hi2 : hi ≤ w2.heap.size := by have := hB.size; omega
    have ib := Hv1.out.below (flat_loc _) hB hhi
    have ix := Hv2.out.below (flat_loc _) hB hhi
    have hs1 := fun n => strN ib n hi2
    rw [he] at hrow
    by_cases hg : b.length ≤ x.length
    · rcases ix.cases with ⟨rfl, ao3, cap3, e3, -, hn3⟩ | ⟨hp, bb, off, cap3, e3, -, -, hlo3, hhi3, hcc⟩
      · cases List.eq_nil_of_length_eq_zero (show b.length = 0 by simpa using hg)
        have hpc : Bytes lo hi w2 (.slice ao3 0 cap3) [] := e3 ▸ ix
        cases e3
        simp only [List.length_nil] at hs1
        have hs2 := fun n => strN hpc n hi2
        have hle : 0 ≤ cap2 := Nat.zero_le _
        cases ao2 with
        | none =>
          cases hn3 rfl
          go_wp2_with fail
          go_quiet (fail)
          have ib3 := ib.below (flat_loc _) (drewN (Below.refl _ _) nq) hi2
          have ix3 := ix.below (flat_loc _) (drewN (Below.refl _ _) nq) hi2
          go_wp2_with fail
          refine Bytes_any lo hi _ _ _ _ _ ib3 ix3 hi2 _ fun w3 hB3 => ?_
          have hB3' := (drewN hB nq).trans (hB3.mono hB.size)
          by_cases hc : Lib.compareBytes [] [] ≤ 0
          · have ix4 := ix3.below (flat_loc _) hB3 hi2
            have hhi4 : hi ≤ w3.heap.size := Nat.le_trans hi2 hB3.size
            have e4 := (ho.bytes.below (flat_loc _) (drewN (Below.refl _ _) nq) (Nat.le_refl _)).below (flat_loc _) hB3 (Nat.le_refl _)
            go_wp2_with fail
            refine Bytes_any 0 w3.heap.size _ _ _ e _ (ix4.mono (flat_loc _) (Nat.zero_le _) hhi4) (e4.mono (flat_loc _) (Nat.zero_le _) hB3.size) (Nat.le_refl _) _ fun w4 hB4 => ?_
            have hB4' := hB3'.trans (hB4.mono hB3'.size)
            by_cases hd : Lib.compareBytes [] e < 0
            · go_wp2_with fail
              all_goals first | exact hB4' | exact fin (hR _ hB4') (show Value.bool _ = Value.bool _ by simp_all) | skip
            · go_wp2_with fail
              all_goals first | exact hB4' | exact fin (hR _ hB4') (show Value.bool _ = Value.bool _ by simp_all) | skip
          · go_wp2_with fail
            all_goals first | exact hB3' | exact fin (hR _ hB3') (show Value.bool _ = Value.bool _ by simp_all) | skip
        | some at2 =>
          obtain ⟨bb, off, spot⟩ := at2
          go_wp2_with fail
          go_quiet (fail)
          have ib3 := ib.below (flat_loc _) (drewN (Below.refl _ _) nq) hi2
          have ix3 := ix.below (flat_loc _) (drewN (Below.refl _ _) nq) hi2
          go_wp2_with fail
          refine Bytes_any lo hi _ _ _ _ _ ib3 ix3 hi2 _ fun w3 hB3 => ?_
          have hB3' := (drewN hB nq).trans (hB3.mono hB.size)
          by_cases hc : Lib.compareBytes [] [] ≤ 0
          · have ix4 := ix3.below (flat_loc _) hB3 hi2
            have hhi4 : hi ≤ w3.heap.size := Nat.le_trans hi2 hB3.size
            have e4 := (ho.bytes.below (flat_loc _) (drewN (Below.refl _ _) nq) (Nat.le_refl _)).below (flat_loc _) hB3 (Nat.le_refl _)
            go_wp2_with fail
            refine Bytes_any 0 w3.heap.size _ _ _ e _ (ix4.mono (flat_loc _) (Nat.zero_le _) hhi4) (e4.mono (flat_loc _) (Nat.zero_le _) hB3.size) (Nat.le_refl _) _ fun w4 hB4 => ?_
            have hB4' := hB3'.trans (hB4.mono hB3'.size)
            by_cases hd : Lib.compareBytes [] e < 0
            · go_wp2_with fail
              all_goals first | exact hB4' | exact fin (hR _ hB4') (show Value.bool _ = Value.bool _ by simp_all) | skip
            · go_wp2_with fail
              all_goals first | exact hB4' | exact fin (hR _ hB4') (show Value.bool _ = Value.bool _ by simp_all) | skip
          · go_wp2_with fail
            all_goals first | exact hB3' | exact fin (hR _ hB3') (show Value.bool _ = Value.bool _ by simp_all) | skip
      · cases e3
        have hpc := Sl.piece (cap := cap2) hcc hlo3 hhi3 0 b.length cap2 (by omega) (by omega) (by simp only [maxLen]; omega)
        rw [List.drop_zero, Nat.zero_mul, Nat.add_zero] at hpc
        have hs2 := fun n => strN hpc n hi2
        have hle : b.length ≤ cap2 := by omega
        have hpre : (List.take b.length x == b) = decide (b <+: x) := Bool.eq_iff_iff.2 ⟨fun h => decide_eq_true (List.prefix_iff_eq_take.2 (eq_of_beq h).symm), fun h => beq_iff_eq.2 (List.prefix_iff_eq_take.1 (of_decide_eq_true h)).symm⟩
        go_wp2_with fail
        go_quiet (fail)
        have ib3 := ib.below (flat_loc _) (drewN (Below.refl _ _) nq) hi2
        have ix3 := ix.below (flat_loc _) (drewN (Below.refl _ _) nq) hi2
        go_wp2_with fail
        refine Bytes_any lo hi _ _ _ _ _ ib3 ix3 hi2 _ fun w3 hB3 => ?_
        have hB3' := (drewN hB nq).trans (hB3.mono hB.size)
        by_cases hc : Lib.compareBytes b x ≤ 0
        · have ix4 := ix3.below (flat_loc _) hB3 hi2
          have hhi4 : hi ≤ w3.heap.size := Nat.le_trans hi2 hB3.size
          have e4 := (ho.bytes.below (flat_loc _) (drewN (Below.refl _ _) nq) (Nat.le_refl _)).below (flat_loc _) hB3 (Nat.le_refl _)
          go_wp2_with fail
          refine Bytes_any 0 w3.heap.size _ _ _ e _ (ix4.mono (flat_loc _) (Nat.zero_le _) hhi4) (e4.mono (flat_loc _) (Nat.zero_le _) hB3.size) (Nat.le_refl _) _ fun w4 hB4 => ?_
          have hB4' := hB3'.trans (hB4.mono hB3'.size)
          by_cases hd : Lib.compareBytes x e < 0
          · go_wp2_with fail
            all_goals first | exact hB4' | exact fin (hR _ hB4') (show Value.bool _ = Value.bool _ by rw [hpre]; simp [hrow, hc, hd]) | skip
          · go_wp2_with fail
            all_goals first | exact hB4' | exact fin (hR _ hB4') (show Value.bool _ = Value.bool _ by rw [hpre]; simp [hrow, hc, hd]) | skip
        · go_wp2_with fail
          all_goals first | exact hB3' | exact fin (hR _ hB3') (show Value.bool _ = Value.bool _ by rw [hpre]; simp [hrow, hc]) | skip
    · have hpre : ¬ b <+: x := fun h => hg h.length_le
      go_wp2_with fail
      go_quiet (fail)
      have ib3 := ib.below (flat_loc _) (drewN (Below.refl _ _) nq) hi2
      have ix3 := ix.below (flat_loc _) (drewN (Below.refl _ _) nq) hi2
      go_wp2_with fail
      refine Bytes_any lo hi _ _ _ _ _ ib3 ix3 hi2 _ fun w3 hB3 => ?_
      have hB3' := (drewN hB nq).trans (hB3.mono hB.size)
      by_cases hc : Lib.compareBytes b x ≤ 0
      · have ix4 := ix3.below (flat_loc _) hB3 hi2
        have hhi4 : hi ≤ w3.heap.size := Nat.le_trans hi2 hB3.size
        have e4 := (ho.bytes.below (flat_loc _) (drewN (Below.refl _ _) nq) (Nat.le_refl _)).below (flat_loc _) hB3 (Nat.le_refl _)
        go_wp2_with fail
        refine Bytes_any 0 w3.heap.size _ _ _ e _ (ix4.mono (flat_loc _) (Nat.zero_le _) hhi4) (e4.mono (flat_loc _) (Nat.zero_le _) hB3.size) (Nat.le_refl _) _ fun w4 hB4 => ?_
        have hB4' := hB3'.trans (hB4.mono hB3'.size)
        by_cases hd : Lib.compareBytes x e < 0
        · go_wp2_with fail
          all_goals first | exact hB4' | exact fin (hR _ hB4') (show Value.bool _ = Value.bool _ by simp_all) | skip
        · go_wp2_with fail
          all_goals first | exact hB4' | exact fin (hR _ hB4') (show Value.bool _ = Value.bool _ by simp_all) | skip
      · go_wp2_with fail
        all_goals first | exact hB3' | exact fin (hR _ hB3') (show Value.bool _ = Value.bool _ by simp_all) | skip
end Go.Proofs.Ytomclldnoockcaa
