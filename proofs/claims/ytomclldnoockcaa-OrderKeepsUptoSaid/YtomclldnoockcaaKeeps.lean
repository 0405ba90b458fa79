/- The walk of OrderKeeps. -/
import Derived.Test.YtomclldnoockcaaAlive
import Derived.Test.YtomclldnoockcaaEnd
import Derived.Test.YtomclldnoockcaaKeyB
import Derived.Test.YtomclldnoockcaaKeysCmp
namespace Go.Proofs.Ytomclldnoockcaa
open Go.RowKit

theorem strD {w : World} {lo hi : Nat} {v : Value} {l : List UInt8} (h : Bytes lo hi w v l) (n : Nat) (hhi : hi ≤ w.heap.size) : (convert 22 9 v).run Try.prog (w.drewN n) = .ok (.string ⟨l.toArray⟩) (w.drewN n) :=
  str (h.below (flat_loc _) (drewN (Below.refl _ _) n) hhi)
theorem encV_ne (v : V) : encV v ≠ [] := by simp [encV]
/-- A value's bytes of the call's own: a slice with a place. -/
theorem OwnB.placed {lo : Nat} {w : World} {v : Value} {xs : List UInt8} (h : OwnB lo w v xs) (hx : xs ≠ []) : ∃ g cap, v = .slice (some ⟨g, 0, none⟩) xs.length cap ∧ xs.length ≤ cap ∧ cap ≤ 9223372036854775807 ∧ lo ≤ g ∧ g < w.heap.size ∧ CellsAt w g 0 (xs.flatMap bE) := by
  obtain ⟨g, cap, e, h1, h2, h3, h4, h5, -⟩ := h.form hx
  exact ⟨g, cap, e, h3, by simpa [maxLen] using h4, h1, h2, h5⟩
theorem cellsAt_take {w : World} {g : Nat} {xs : List UInt8} (h : CellsAt w g 0 (xs.flatMap bE)) (n : Nat) : CellsAt w g 0 ((xs.take n).flatMap bE) := fun j v hj => by
  rw [flatMap_bE, List.map_take] at hj
  rw [flatMap_bE] at h
  have hj' := List.getElem?_eq_some_iff.1 hj
  have : j < n := by have := hj'.1; rw [List.length_take] at this; omega
  rw [List.getElem?_take, if_pos this] at hj
  exact h j v hj

set_option maxRecDepth 100000 in
set_option maxHeartbeats 8000000 in
theorem OrderKeeps_any (lo hi : Nat) (a b : List Pt) (v1 v2 : Value) (w : World) (hv1 : Pts lo hi w v1 a) (hv2 : Pts lo hi w v2 b) (hhi : hi ≤ w.heap.size) (hsa : sumP a ≤ 100000000) (hsb : sumP b ≤ 100000000) (ra : ∀ p ∈ a, PtR p) (rb : ∀ p ∈ b, PtR p)
    (R : Ending → World → Prop) (hR : ∀ w', Below w.heap.size w w' → R (.returned (.bool true)) w') : Calls Try.prog 6 #[v1, v2] w R := by
  have Hv1 := Lib.hid hv1
  have Hv2 := Lib.hid hv2
  have Hra := Lib.hid ra
  have Hrb := Lib.hid rb
  obtain ⟨ao, cap, rfl, hl1, hl2, -, hc⟩ := hv1.form
  obtain ⟨ao2, cap2, rfl, hl3, hl4, -, hc2⟩ := hv2.form
  have Hc := Lib.hid hc
  have Hc2 := Lib.hid hc2
  have HR := Lib.hid hR
  clear hc hc2 hv1 hv2 hR ra rb
  go_enter Try.func6, Try.ntmps6
  go_wp2_with fail
  refine alive_any _ _ fun w1 hB1 => ?_
  have hr1 := HR.out w1 hB1
  go_wp2_with fail
  refine great_any lo hi a _ _ (Sl.below Hv1.out (flat_loc _) hB1 hhi) hsa _ ?_
  by_cases ga : 5000 < sumP a
  · rw [decide_eq_true ga]
    go_wp2_with fail
    all_goals first | exact hr1 | exact fin hr1 rfl
  rw [decide_eq_false ga]
  go_wp2_with fail
  refine great_any lo hi b _ _ (Sl.below Hv2.out (flat_loc _) hB1 hhi) hsb _ ?_
  by_cases gb : 5000 < sumP b
  · rw [decide_eq_true gb]
    go_wp2_with fail
    all_goals first | exact hr1 | exact fin hr1 rfl
  rw [decide_eq_false gb]
  by_cases hlen : a.length = b.length
  case neg =>
    have hne : ((a.length : Int) == b.length) = false := by simp; omega
    go_wp2_with fail
    all_goals first | exact hr1 | exact fin hr1 rfl
  have Hlen := Lib.hid hlen
  replace hlen := hlen.symm
  rw [hlen] at Hv2 hl3
  have hla := sumP_length a
  go_wp2_with fail
  clear hlen
  go_loopw [6] (fun t6 wr => ∃ k : Nat, k ≤ a.length ∧ t6 = .int .i64 k ∧ Below w.heap.size w wr ∧ ∀ i (h1 : i < a.length) (h2 : i < b.length), i < k → a[i].is = b[i].is) (fun t6 _ => a.length - (intOf t6).toNat)
  case atStart => exact ⟨0, Nat.zero_le _, rfl, hB1, fun i _ _ h => absurd h (Nat.not_lt_zero _)⟩
  case round =>
    obtain ⟨k, hk, rfl, hB, his⟩ := hrel
    have His := Lib.hid his
    clear his hr1
    by_cases hlt : k < a.length
    · have hlb : k < b.length := by have := Hlen.out; omega
      obtain ⟨b1, off1, rfl, p1, p2, q1⟩ := Hc.out k hlt
      obtain ⟨b2, off2, rfl, p3, p4, q2⟩ := Hc2.out k hlb
      obtain ⟨cs, _, hcs, e1⟩ := q1 k hlt
      obtain ⟨cs2, _, hcs2, e2⟩ := q2 k hlb
      subst e1 e2
      obtain ⟨c0, -⟩ := (hcs.agree (.below hB hhi) p1 p2).c5
      obtain ⟨d0, -⟩ := (hcs2.agree (.below hB hhi) p3 p4).c5
      clear hcs hcs2 q1 q2
      by_cases e : a[k].is = b[k].is
      · have He := Lib.hid e
        rw [e] at c0
        have hx : (b[k].is == b[k].is) = true := by simp
        clear e
        go_wp2_with fail
        go_quiet (fail)
        go_wp2_with fail
        go_roundw
        case rel =>
          refine ⟨k + 1, by omega, by go_num, by repeat (first | exact hB | apply drewN), fun i h1 h2 hi => ?_⟩
          by_cases e : i = k
          · subst e; exact He.out
          · exact His.out i h1 h2 (by omega)
        case measure => simp [intOf]; omega
      · have hr := HR.out _ hB
        have hx : (a[k].is == b[k].is) = false := by simpa using e
        go_wp2_with fail
        go_quiet (fail)
        have hr2 := HR.out _ (drewN hB nq)
        go_wp2_with fail
        all_goals first | exact hr2 | exact fin hr2 rfl
    · have hkinds : ∀ i (h1 : i < a.length) (h2 : i < b.length), a[i].is = b[i].is := fun i h1 h2 => His.out i h1 h2 (by omega)
      have Hkinds := Lib.hid hkinds
      clear hkinds His
      go_wp2_with fail
      refine Key_b lo hi a _ wr (Sl.below Hv1.out (flat_loc _) hB hhi) (Nat.le_trans hhi hB.size) (by omega) _ fun w2 t7 hB2 ho2 => ?_
      have Ho2 := Lib.hid ho2
      have hB12 := hB.trans (hB2.mono hB.size)
      clear ho2
      go_wp2_with fail
      refine Key_b lo hi b _ w2 (Sl.below Hv2.out (flat_loc _) hB12 hhi) (Nat.le_trans hhi hB12.size) (by omega) _ fun w3 t9 hB3 ho3 => ?_
      have hB13 := hB12.trans (hB3.mono hB12.size)
      have H7 := Lib.hid (OwnB.later Ho2.out hB3)
      have H9 := Lib.hid (OwnB.later ho3 (Below.refl _ _))
      have hr3 := HR.out w3 hB13
      clear ho3 Ho2 hB2 hB3 hB12
      cases hoa : a.all Pt.ok
      · have e8 : keyE a = 10 := by simp [keyE, hoa]
        rw [e8]
        go_wp2_with fail
        all_goals first | exact hr3 | exact fin hr3 rfl
      cases hob : b.all Pt.ok
      · have e8 : keyE a = 0 := by simp [keyE, hoa]
        have e9 : keyE b = 10 := by simp [keyE, hob]
        rw [e8, e9]
        go_wp2_with fail
        all_goals first | exact hr3 | exact fin hr3 rfl
      have e8 : keyE a = 0 := by simp [keyE, hoa]
      have e9 : keyE b = 0 := by simp [keyE, hob]
      have e7 : keyB a = encK a := by simp [keyB, hoa]
      have e6 : keyB b = encK b := by simp [keyB, hob]
      rw [e8, e9]
      rw [e7] at H7
      rw [e6] at H9
      have Hcmp := Lib.hid (encK_cb a b Hlen.out Hkinds.out Hra.out Hrb.out hoa hob)
      have Hoa := Lib.hid (fun i (h : i < a.length) => (List.all_eq_true.1 hoa) _ (List.getElem_mem h))
      have Hob := Lib.hid (fun i (h : i < b.length) => (List.all_eq_true.1 hob) _ (List.getElem_mem h))
      have hs3 := hB13.size
      clear e8 e9 e7 e6 hr3 hoa hob
      go_wp2_with fail
      go_loopw [11] (fun t11 wr => ∃ k : Nat, k ≤ a.length ∧ t11 = .int .i64 k ∧ Below w3.heap.size w3 wr) (fun t11 _ => a.length - (intOf t11).toNat)
      case atStart => exact ⟨0, Nat.zero_le _, rfl, Below.refl _ _⟩
      case round =>
        obtain ⟨j, hj, rfl, hBr⟩ := hrel
        have hBw := hB13.trans (hBr.mono hs3)
        clear hlt
        by_cases hlt : j < a.length
        · have hlb : j < b.length := by have := Hlen.out; omega
          have hsj := Hkinds.out j hlt hlb
          have Hbj := Lib.hid (fun h => Hob.out j h)
          have Haj := Lib.hid (Hoa.out j hlt)
          have Hra1 := Lib.hid (Hra.out _ (List.getElem_mem hlt))
          have Hrb1 := Lib.hid (Hrb.out _ (List.getElem_mem hlb))
          obtain ⟨b1, off1, rfl, p1, p2, q1⟩ := Hc.out j hlt
          obtain ⟨b2, off2, rfl, p3, p4, q2⟩ := Hc2.out j hlb
          obtain ⟨cs, _, hcs, e1⟩ := q1 j hlt
          obtain ⟨cs2, _, hcs2, e2⟩ := q2 j hlb
          subst e1 e2
          obtain ⟨c0, c1, c2, c3, c4⟩ := (hcs.agree (.below hBw hhi) p1 p2).c5
          have hsl1 := sumP_part a j hlt
          have hsl2 := sumP_part b j hlb
          have hbz1 : b1 < wr.heap.size := by have := hBw.size; omega
          clear q1 q2
          go_wp2_with fail
          refine Value_b a[j].v wr (by omega) _ fun w4 t12 hB4 ho4 => ?_
          have hBw4 := hBw.trans (hB4.mono hBw.size)
          have Ho4 := Lib.hid ho4
          obtain ⟨d0, d1, d2, d3, d4⟩ := (hcs2.agree (.below hBw4 hhi) p3 p4).c5
          clear ho4 c0 c1 c2 c3 c4
          go_wp2_with fail
          refine Value_b b[j].v w4 (by omega) _ fun w5 t14 hB5 ho5 => ?_
          have hBw5 := hBw4.trans (hB5.mono hBw4.size)
          have hBr5 : Below w3.heap.size w3 w5 := hBr.trans ((hB4.trans (hB5.mono hB4.size)).mono hBr.size)
          have Ho5 := Lib.hid ho5
          obtain ⟨c0, c1, c2, c3, c4⟩ := (hcs.agree (.below hBw5 hhi) p1 p2).c5
          obtain ⟨d0, d1, d2, d3, d4⟩ := (hcs2.agree (.below hBw5 hhi) p3 p4).c5
          clear ho5 hcs hcs2 hbz1
          cases his : a[j].is
          · have hz0 : w5.cell? ⟨b1, off1 + j * 5, none⟩ = some (.bool false) := by rw [← his]; exact c0
            clear c0 d0 d1 d2 d3 d4 c1 c2 c3 c4 his hsj
            go_wp2_with fail
            go_quiet (fail)
            go_wp2_with fail
            go_roundw
            case rel => exact ⟨j + 1, by omega, by go_num, drewN hBr5 nq⟩
            case measure => simp [intOf]; omega
          · have hz0 : w5.cell? ⟨b1, off1 + j * 5, none⟩ = some (.bool true) := by rw [← his]; exact c0
            have hsj2 : b[j].is = true := by rw [← hsj]; exact his
            clear c0 hsj
            have ma : mayB a[j].v = true := by simpa [Pt.ok, his] using Haj.out
            have mb : mayB b[j].v = true := by simpa [Pt.ok, hsj2] using Hbj.out hlb
            have ea : valE a[j].v = 0 := by simp [valE, ma]
            have eb : valE b[j].v = 0 := by simp [valE, mb]
            have ho4 := Ho4.out
            have ho5 := Ho5.out
            rw [show valB a[j].v = encV a[j].v by simp [valB, ma]] at ho4
            rw [show valB b[j].v = encV b[j].v by simp [valB, mb]] at ho5
            have Hpre := Lib.hid (encV_prefix ma mb Hra1.out.v Hrb1.out.v)
            obtain ⟨g4, cap4, rfl, k1, k2, k3, k4, k5⟩ := OwnB.placed ho4 (encV_ne _)
            obtain ⟨g5, cap5, rfl, m1, m2, m3, m4, m5⟩ := OwnB.placed ho5 (encV_ne _)
            have hs4 := fun n => strD (OwnB.later ho4 hB5) n (Nat.le_refl _)
            rw [ea, eb]
            clear his hsj2 ma mb ea eb ho4 ho5 Ho4 Ho5 d0 d1 c1
            by_cases hle : (encV a[j].v).length ≤ (encV b[j].v).length
            · have hpc := Bytes.ofCells (c := cap5) (lo := 0) (hi := w5.heap.size) (cellsAt_take m5 (encV a[j].v).length) (Nat.zero_le _) m4 (by rw [List.length_take]; omega) (by simp only [maxLen]; omega)
              rw [List.length_take, Nat.min_eq_left hle] at hpc
              have hs5 := fun n => strD hpc n (Nat.le_refl _)
              have hcp : (encV a[j].v).length ≤ cap5 := by omega
              by_cases htk : (encV b[j].v).take (encV a[j].v).length = encV a[j].v
              · have hbt : (List.take (encV a[j].v).length (encV b[j].v) == encV a[j].v) = true := by rw [htk]; simp
                have hz := Hpre.out htk
                have hs40 : (convert 22 9 (.slice (some ⟨g4, 0, none⟩) (encV a[j].v).length cap4)).run Try.prog w5.drew = .ok (.string ⟨(encV a[j].v).toArray⟩) w5.drew := hs4 1
                have hs50 : (convert 22 9 (.slice (some ⟨g5, 0, none⟩) (encV a[j].v).length cap5)).run Try.prog w5.drew = .ok (.string ⟨((encV b[j].v).take (encV a[j].v).length).toArray⟩) w5.drew := hs5 1
                clear hs4 hs5 htk m5 k5 hpc
                go_wp2_with fail
                refine wp_region_still_tail 39 (by kernel_rfl) (by kernel_rfl) ?_
                change wpStill _ _ (World.drew _) (fun a' => wpList _ _ _ _ a' (World.drew _)) _ _
                simp only [List.take_succ_cons, List.take_zero, List.drop_succ_cons, List.drop_zero]
                repeat still_step
                refine wpStill_nil ?_
                go_wp2_with fail
                refine Compare_any a[j].v b[j].v _ _ fun w6 hB6 => ?_
                have hBr6 : Below w3.heap.size w3 w6 := hBr5.trans (((Below.refl _ w5).drew.trans hB6).mono hBr5.size)
                rw [hz]
                clear hB6 hs40 hs50
                go_wp2_with fail
                go_roundw
                case rel => exact ⟨j + 1, by omega, by go_num, hBr6⟩
                case measure => simp [intOf]; omega
              · have hbt : (List.take (encV a[j].v).length (encV b[j].v) == encV a[j].v) = false := by simpa using htk
                clear htk m5 k5 hpc
                go_wp2_with fail
                go_quiet (fail)
                go_wp2_with fail
                go_roundw
                case rel => exact ⟨j + 1, by omega, by go_num, drewN hBr5 nq⟩
                case measure => simp [intOf]; omega
            · clear m5 k5 hs4
              go_wp2_with fail
              go_quiet (fail)
              go_wp2_with fail
              go_roundw
              case rel => exact ⟨j + 1, by omega, by go_num, drewN hBr5 nq⟩
              case measure => simp [intOf]; omega
        · have h7 := (Sl.below H7.out (flat_loc _) hBr (Nat.le_refl _)).mono (flat_loc _) (Nat.le_refl _) hBr.size
          have h9 := (Sl.below H9.out (flat_loc _) hBr (Nat.le_refl _)).mono (flat_loc _) (Nat.le_refl _) hBr.size
          go_wp2_with fail
          refine Bytes_any 0 wr.heap.size _ _ (encK a) (encK b) wr h7 h9 (Nat.le_refl _) _ fun w4 hB4 => ?_
          have hBw4 := hBw.trans (hB4.mono hBw.size)
          have e1 : Lib.compareBytes (encK a) (encK b) = cmpK a b := Hcmp.out
          rw [e1]
          go_wp2_with fail
          refine refCompareK_any lo hi a b _ (.slice _ a.length _) w4 (Sl.below Hv1.out (flat_loc _) hBw4 hhi) (Sl.below Hv2.out (flat_loc _) hBw4 hhi) (Nat.le_trans hhi hBw4.size) (fun p hp => ?_) (fun p hp => ?_) _ fun w6 hB6 => ?_
          · obtain ⟨i, hi2, rfl⟩ := List.getElem_of_mem hp
            have := sumP_part a i hi2
            omega
          · obtain ⟨i, hi2, rfl⟩ := List.getElem_of_mem hp
            have := sumP_part b i hi2
            omega
          · have hr6 := HR.out w6 (hBw4.trans (hB6.mono hBw4.size))
            have hx : (cmpK a b == cmpK a b) = true := by simp
            go_wp2_with fail
            all_goals first | exact hr6 | exact fin hr6 rfl | exact fin hr6 (by simp)
end Go.Proofs.Ytomclldnoockcaa
