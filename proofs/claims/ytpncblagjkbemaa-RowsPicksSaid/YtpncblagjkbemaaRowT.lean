/- The law RowsOf, walked. (Printed by rowt.py.) -/
import Derived.Test.YtpncblagjkbemaaRowR
import Derived.Test.YtpncblagjkbemaaRowAt
import Derived.Test.YtpncblagjkbemaaRowOk
namespace Go.Proofs.Ytpncblagjkbemaa
open Go.RowKit
set_option linter.unusedVariables false
set_option linter.unusedSimpArgs false

theorem great_no {cols : List S} {l : List (List V)} (h : greatB cols l = false) : cols.length ≤ 60 ∧ l.length ≤ 150 ∧ ∀ x ∈ l, x.length ≤ 60 := by
  unfold greatB at h
  simp only [Bool.or_eq_false_iff, decide_eq_false_iff_not, List.any_eq_false, decide_eq_true_eq] at h
  exact ⟨by omega, by omega, fun x hx => by have := h.2 x hx; omega⟩
set_option maxRecDepth 100000 in
set_option maxHeartbeats 4000000 in
theorem RowsOf_any (lo hi lc hc : Nat) (cols : List S) (l : List (List V)) (cv lv : Value) (w : World) (hcols : Strs lc hc w cv cols) (hhc : hc ≤ w.heap.size) (hv : Rws lo hi w lv l) (hhi : hi ≤ w.heap.size) (hrs : ∀ x ∈ l, ∀ a ∈ x, a.s.length ≤ 9223372036854775807) (R : Ending → World → Prop)
    (hR : ∀ w', Below w.heap.size w w' → R (.returned (.bool true)) w') : Calls Try.prog 5 #[cv, lv] w R := by
  have HR := Lib.hid hR
  have Hv := Lib.hid hv
  have Hc := Lib.hid hcols
  have Hrs := Lib.hid hrs
  obtain ⟨ac, cc, rfl, -, -, -, -⟩ := hcols.form
  obtain ⟨av, cv2, rfl, -, -, -, -⟩ := hv.form
  clear hR hv hcols hrs
  go_enter Try.func5, Try.ntmps5
  go_wp2_with fail
  refine great_any lo hi cols ac cc l _ w Hv.out _ ?_
  cases hg : greatB cols l
  · obtain ⟨hcl, hll, hxl⟩ := great_no hg
    have Hxl := Lib.hid hxl
    clear hg hxl
    go_wp2_with fail
    refine lawOwn_any lo hi lc hc cols ac cc l _ w Hc.out hhc Hv.out hhi (by omega) (by omega) (fun x hx => by have := Hxl.out x hx; omega) _ (fun w1 cv3 lv3 hB1 hc3 hv3 => ?_)
    have HB1 := Lib.hid hB1
    have Hc3 := Lib.hid hc3
    have Hv3 := Lib.hid hv3
    obtain ⟨ac3, cc3, rfl, -, -, -, -⟩ := hc3.form
    obtain ⟨av3, cv4, rfl, -, -, -, -⟩ := hv3.form
    clear hB1 hc3 hv3
    go_upto_region 5 with fail
    have hBa := alloc_below w1 (.cells #[.slice ac3 cols.length cc3, .slice av3 l.length cv4] 34)
    have hba := Blk.new w1 [.slice ac3 cols.length cc3, .slice av3 l.length cv4] 34 rfl
    generalize w1.alloc (.cells #[.slice ac3 cols.length cc3, .slice av3 l.length cv4] 34) = w2 at *
    have HBa := Lib.hid hBa
    have Hba := Lib.hid hba
    have hzw := HB1.out.size
    have hza := hBa.size
    have hbal := hba.lt
    clear hBa hba
    go_loopw [6] (fun t6 wr => ∃ k : Nat, 1 ≤ k ∧ k ≤ l.length + 1 ∧ t6 = .int .i64 k ∧ Below w2.heap.size w2 wr) (fun t6 _ => l.length + 1 - (intOf t6).toNat)
    case atStart => exact ⟨1, Nat.le_refl _, by omega, rfl, Below.refl _ _⟩
    case round =>
      obtain ⟨k, hk1, hk, rfl, hB⟩ := hrel
      obtain ⟨wo, ewo⟩ : ∃ x, x = wr := ⟨_, rfl⟩
      subst ewo
      have hz := hB.size
      have HB := Lib.hid hB
      have HBw := Lib.hid ((HB1.out.trans (HBa.out.mono hzw)).trans (hB.mono (by omega)))
      have hzo := HBw.out.size
      have kk0 : (0 : Int) ≤ (k : Int) := by omega
      have Hva := Lib.hid (Sl.below Hv3.out rowE_loc ((HBa.out.trans (HB.out.mono hza))) (Nat.le_refl _))
      have Hca := Lib.hid (Sl.below Hc3.out Strs.loc ((HBa.out.trans (HB.out.mono hza))) (Nat.le_refl _))
      have Hvl := Lib.hid (Sl.below Hv.out rowE_loc HBw.out hhi)
      have Hcl := Lib.hid (Sl.below Hc.out Strs.loc HBw.out hhc)
      have Hbo := Lib.hid (Hba.out.below HB.out hbal)
      clear hB
      by_cases hlt : k < l.length
      · have kkl : (k : Int) < (l.length : Int) := by omega
        obtain ⟨b3, o3, rfl, hb3, hrow3⟩ := Rws.at Hva.out (by omega) (by omega)
        obtain ⟨b4, o4, rfl, hb4, hrow4⟩ := Rws.at Hvl.out (by omega) (by omega)
        have hjl : k - 1 < l.length := by omega
        have kjl : (k : Int) - 1 < (l.length : Int) := by omega
        obtain ⟨j, ej⟩ : ∃ j, j = k - 1 := ⟨_, rfl⟩
        have hkj : (k : Int) - 1 = (j : Int) := by omega
        have jj0 : (0 : Int) ≤ (j : Int) := by omega
        have jjl : (j : Int) < (l.length : Int) := by omega
        obtain ⟨p1, c1, g1, r1⟩ := hrow3 j (by omega)
        obtain ⟨p2, c2, g2, r2⟩ := hrow3 k hlt
        obtain ⟨p3, c3, g3, r3⟩ := hrow4 j (by omega)
        obtain ⟨p4, c4, g4, r4⟩ := hrow4 k hlt
        have G1 := Lib.hid g1
        have G2 := Lib.hid g2
        have G3 := Lib.hid g3
        have G4 := Lib.hid g4
        have R1 := Lib.hid r1
        have R2 := Lib.hid r2
        have R3 := Lib.hid r3
        have R4 := Lib.hid r4
        have M1 := Lib.hid (Hrs.out _ (List.getElem_mem (show j < l.length by omega)))
        have M2 := Lib.hid (Hrs.out _ (List.getElem_mem hlt))
        clear hrow3 hrow4 g1 g2 g3 g4 r1 r2 r3 r4 ej hjl kjl
        generalize l[j] = xa at *
        generalize l[k] = xb at *
        go_upto_region 7 with fail
        have hS0 : Below wo.heap.size wo wo.drew := (Below.refl _ _).drew
        refine wp_region_held_drew (S := fun w' => Below wo.heap.size wo w') (by kernel_rfl) hS0 (fun hHeld => ?_)
        refine wpAnyH_take (i := 0) (v := .pointer (some ⟨w1.heap.size, 1, none⟩)) rfl (by kernel_rfl) (by kernel_rfl) (by kernel_rfl) (fun _ _ _ h => h) (Or.inl ⟨by rfl, ?_⟩) hHeld ?_
        · intro w' hSw; go_simp
        try simp only [Act.put, List.getElem_toArray, List.getElem_cons_succ, List.getElem_cons_zero, List.setIfInBounds_toArray, List.set_cons_zero, List.set_cons_succ]
        refine wpAnyH_take (i := 1) (v := .slice (some ⟨b3, o3, none⟩) l.length cv4) rfl (by kernel_rfl) (by kernel_rfl) (by kernel_rfl) (fun _ _ _ h => h) (Or.inl ⟨by rfl, ?_⟩) hHeld ?_
        · intro w' hSw; obtain ⟨z0, z1⟩ := (Hbo.out.below hSw (by omega)).cells.c2; simp only [Nat.zero_add] at z1; go_simp
        try simp only [Act.put, List.getElem_toArray, List.getElem_cons_succ, List.getElem_cons_zero, List.setIfInBounds_toArray, List.set_cons_zero, List.set_cons_succ]
        refine wpAnyH_take (i := 2) (v := .int .i64 ((k : Int))) rfl (by kernel_rfl) (by kernel_rfl) (by kernel_rfl) (fun _ _ _ h => h) (Or.inl ⟨by rfl, ?_⟩) hHeld ?_
        · intro w' hSw; go_simp
        try simp only [Act.put, List.getElem_toArray, List.getElem_cons_succ, List.getElem_cons_zero, List.setIfInBounds_toArray, List.set_cons_zero, List.set_cons_succ]
        refine wpAnyH_take (i := 3) (v := .int .i64 ((j : Int))) rfl (by kernel_rfl) (by kernel_rfl) (by kernel_rfl) (fun _ _ _ h => h) (Or.inl ⟨by rfl, ?_⟩) hHeld ?_
        · intro w' hSw; go_simp; exact wrapOk jj0 (by omega)
        try simp only [Act.put, List.getElem_toArray, List.getElem_cons_succ, List.getElem_cons_zero, List.setIfInBounds_toArray, List.set_cons_zero, List.set_cons_succ]
        refine wpAnyH_take (i := 4) (v := .pointer (some ⟨b3, o3 + j, none⟩)) rfl (by kernel_rfl) (by kernel_rfl) (by kernel_rfl) (fun _ _ _ h => h) (Or.inl ⟨by rfl, ?_⟩) hHeld ?_
        · intro w' hSw; go_simp
        try simp only [Act.put, List.getElem_toArray, List.getElem_cons_succ, List.getElem_cons_zero, List.setIfInBounds_toArray, List.set_cons_zero, List.set_cons_succ]
        refine wpAnyH_take (i := 5) (v := .slice p1 xa.length c1) rfl (by kernel_rfl) (by kernel_rfl) (by kernel_rfl) (fun _ _ _ h => h) (Or.inl ⟨by rfl, ?_⟩) hHeld ?_
        · intro w' hSw; have kx := G1.out w' hSw; go_simp
        try simp only [Act.put, List.getElem_toArray, List.getElem_cons_succ, List.getElem_cons_zero, List.setIfInBounds_toArray, List.set_cons_zero, List.set_cons_succ]
        refine wpAnyH_take (i := 6) (v := .pointer (some ⟨w1.heap.size, 1, none⟩)) rfl (by kernel_rfl) (by kernel_rfl) (by kernel_rfl) (fun _ _ _ h => h) (Or.inl ⟨by rfl, ?_⟩) hHeld ?_
        · intro w' hSw; go_simp
        try simp only [Act.put, List.getElem_toArray, List.getElem_cons_succ, List.getElem_cons_zero, List.setIfInBounds_toArray, List.set_cons_zero, List.set_cons_succ]
        refine wpAnyH_take (i := 7) (v := .slice (some ⟨b3, o3, none⟩) l.length cv4) rfl (by kernel_rfl) (by kernel_rfl) (by kernel_rfl) (fun _ _ _ h => h) (Or.inl ⟨by rfl, ?_⟩) hHeld ?_
        · intro w' hSw; obtain ⟨z0, z1⟩ := (Hbo.out.below hSw (by omega)).cells.c2; simp only [Nat.zero_add] at z1; go_simp
        try simp only [Act.put, List.getElem_toArray, List.getElem_cons_succ, List.getElem_cons_zero, List.setIfInBounds_toArray, List.set_cons_zero, List.set_cons_succ]
        refine wpAnyH_take (i := 8) (v := .int .i64 ((k : Int))) rfl (by kernel_rfl) (by kernel_rfl) (by kernel_rfl) (fun _ _ _ h => h) (Or.inl ⟨by rfl, ?_⟩) hHeld ?_
        · intro w' hSw; go_simp
        try simp only [Act.put, List.getElem_toArray, List.getElem_cons_succ, List.getElem_cons_zero, List.setIfInBounds_toArray, List.set_cons_zero, List.set_cons_succ]
        refine wpAnyH_take (i := 9) (v := .pointer (some ⟨b3, o3 + k, none⟩)) rfl (by kernel_rfl) (by kernel_rfl) (by kernel_rfl) (fun _ _ _ h => h) (Or.inl ⟨by rfl, ?_⟩) hHeld ?_
        · intro w' hSw; go_simp
        try simp only [Act.put, List.getElem_toArray, List.getElem_cons_succ, List.getElem_cons_zero, List.setIfInBounds_toArray, List.set_cons_zero, List.set_cons_succ]
        refine wpAnyH_take (i := 10) (v := .slice p2 xb.length c2) rfl (by kernel_rfl) (by kernel_rfl) (by kernel_rfl) (fun _ _ _ h => h) (Or.inl ⟨by rfl, ?_⟩) hHeld ?_
        · intro w' hSw; have kx := G2.out w' hSw; go_simp
        try simp only [Act.put, List.getElem_toArray, List.getElem_cons_succ, List.getElem_cons_zero, List.setIfInBounds_toArray, List.set_cons_zero, List.set_cons_succ]
        refine wpAnyH_take (i := 12) (v := .slice (some ⟨b4, o4, none⟩) l.length cv2) rfl (by kernel_rfl) (by kernel_rfl) (by kernel_rfl) (fun _ _ _ h => h) (Or.inl ⟨by rfl, ?_⟩) hHeld ?_
        · intro w' hSw; go_simp
        try simp only [Act.put, List.getElem_toArray, List.getElem_cons_succ, List.getElem_cons_zero, List.setIfInBounds_toArray, List.set_cons_zero, List.set_cons_succ]
        refine wpAnyH_take (i := 13) (v := .int .i64 ((k : Int))) rfl (by kernel_rfl) (by kernel_rfl) (by kernel_rfl) (fun _ _ _ h => h) (Or.inl ⟨by rfl, ?_⟩) hHeld ?_
        · intro w' hSw; go_simp
        try simp only [Act.put, List.getElem_toArray, List.getElem_cons_succ, List.getElem_cons_zero, List.setIfInBounds_toArray, List.set_cons_zero, List.set_cons_succ]
        refine wpAnyH_take (i := 14) (v := .int .i64 ((j : Int))) rfl (by kernel_rfl) (by kernel_rfl) (by kernel_rfl) (fun _ _ _ h => h) (Or.inl ⟨by rfl, ?_⟩) hHeld ?_
        · intro w' hSw; go_simp; exact wrapOk jj0 (by omega)
        try simp only [Act.put, List.getElem_toArray, List.getElem_cons_succ, List.getElem_cons_zero, List.setIfInBounds_toArray, List.set_cons_zero, List.set_cons_succ]
        refine wpAnyH_take (i := 15) (v := .pointer (some ⟨b4, o4 + j, none⟩)) rfl (by kernel_rfl) (by kernel_rfl) (by kernel_rfl) (fun _ _ _ h => h) (Or.inl ⟨by rfl, ?_⟩) hHeld ?_
        · intro w' hSw; go_simp
        try simp only [Act.put, List.getElem_toArray, List.getElem_cons_succ, List.getElem_cons_zero, List.setIfInBounds_toArray, List.set_cons_zero, List.set_cons_succ]
        refine wpAnyH_take (i := 16) (v := .slice p3 xa.length c3) rfl (by kernel_rfl) (by kernel_rfl) (by kernel_rfl) (fun _ _ _ h => h) (Or.inl ⟨by rfl, ?_⟩) hHeld ?_
        · intro w' hSw; have kx := G3.out w' hSw; go_simp
        try simp only [Act.put, List.getElem_toArray, List.getElem_cons_succ, List.getElem_cons_zero, List.setIfInBounds_toArray, List.set_cons_zero, List.set_cons_succ]
        refine wpAnyH_take (i := 17) (v := .slice (some ⟨b4, o4, none⟩) l.length cv2) rfl (by kernel_rfl) (by kernel_rfl) (by kernel_rfl) (fun _ _ _ h => h) (Or.inl ⟨by rfl, ?_⟩) hHeld ?_
        · intro w' hSw; go_simp
        try simp only [Act.put, List.getElem_toArray, List.getElem_cons_succ, List.getElem_cons_zero, List.setIfInBounds_toArray, List.set_cons_zero, List.set_cons_succ]
        refine wpAnyH_take (i := 18) (v := .int .i64 ((k : Int))) rfl (by kernel_rfl) (by kernel_rfl) (by kernel_rfl) (fun _ _ _ h => h) (Or.inl ⟨by rfl, ?_⟩) hHeld ?_
        · intro w' hSw; go_simp
        try simp only [Act.put, List.getElem_toArray, List.getElem_cons_succ, List.getElem_cons_zero, List.setIfInBounds_toArray, List.set_cons_zero, List.set_cons_succ]
        refine wpAnyH_take (i := 19) (v := .pointer (some ⟨b4, o4 + k, none⟩)) rfl (by kernel_rfl) (by kernel_rfl) (by kernel_rfl) (fun _ _ _ h => h) (Or.inl ⟨by rfl, ?_⟩) hHeld ?_
        · intro w' hSw; go_simp
        try simp only [Act.put, List.getElem_toArray, List.getElem_cons_succ, List.getElem_cons_zero, List.setIfInBounds_toArray, List.set_cons_zero, List.set_cons_succ]
        refine wpAnyH_take (i := 20) (v := .slice p4 xb.length c4) rfl (by kernel_rfl) (by kernel_rfl) (by kernel_rfl) (fun _ _ _ h => h) (Or.inl ⟨by rfl, ?_⟩) hHeld ?_
        · intro w' hSw; have kx := G4.out w' hSw; go_simp
        try simp only [Act.put, List.getElem_toArray, List.getElem_cons_succ, List.getElem_cons_zero, List.setIfInBounds_toArray, List.set_cons_zero, List.set_cons_succ]
        refine wpAnyH_ready (rs := [11]) (by kernel_rfl) (by simp) ?_
        refine allCall (f := 24) (args := #[.slice p1 xa.length c1, .slice p2 xb.length c2]) rfl (by kernel_rfl) (by kernel_rfl) ?_ AllReadyH.nil
        refine rowsCompareB_any _ _ _ _ xa xb _ _ wo.drew (Sl.below R1.out Row1.loc hHeld (by omega)) (Sl.below R2.out Row1.loc hHeld (by omega)) (by have := hHeld.size; omega) (by have := hHeld.size; omega) _ (fun wq1 hB => ?_)
        refine ⟨_, rfl, hHeld.trans (hB.mono hHeld.size), ?_⟩
        have hHeld2 := hHeld.trans (hB.mono hHeld.size)
        clear hHeld
        have hHeld := hHeld2
        clear hHeld2
        clear hB
        try simp only [Act.put, List.getElem_toArray, List.getElem_cons_succ, List.getElem_cons_zero, List.setIfInBounds_toArray, List.set_cons_zero, List.set_cons_succ]
        refine wpAnyH_ready (rs := [21]) (by kernel_rfl) (by simp) ?_
        refine allCall (f := 25) (args := #[.slice p3 xa.length c3, .slice p4 xb.length c4]) rfl (by kernel_rfl) (by kernel_rfl) ?_ AllReadyH.nil
        refine refRowsCompare_any _ _ _ _ xa xb _ _ wq1 (Sl.below R3.out Row1.loc hHeld (by omega)) (Sl.below R4.out Row1.loc hHeld (by omega)) (by have := hHeld.size; omega) (by have := hHeld.size; omega) M1.out M2.out _ (fun wq2 hB => ?_)
        refine ⟨_, rfl, hHeld.trans (hB.mono hHeld.size), ?_⟩
        have hHeld2 := hHeld.trans (hB.mono hHeld.size)
        clear hHeld
        have hHeld := hHeld2
        clear hHeld2
        clear hB
        try simp only [Act.put, List.getElem_toArray, List.getElem_cons_succ, List.getElem_cons_zero, List.setIfInBounds_toArray, List.set_cons_zero, List.set_cons_succ]
        refine wpAnyH_take (i := 22) (v := .bool false) rfl (by kernel_rfl) (by kernel_rfl) (by kernel_rfl) (fun _ _ _ h => h) (Or.inl ⟨by rfl, ?_⟩) hHeld ?_
        · intro w' hSw; go_simp
        try simp only [Act.put, List.getElem_toArray, List.getElem_cons_succ, List.getElem_cons_zero, List.setIfInBounds_toArray, List.set_cons_zero, List.set_cons_succ]
        have HH2 := Lib.hid hHeld
        refine wpAnyH_done (by kernel_rfl) ?_ _
        clear hHeld
        have Hn := Lib.hid (HB.out.trans (HH2.out.mono (by omega)))
        go_wp2_with fail
        go_roundw
        case rel => exact ⟨k + 1, by omega, by omega, by go_num, Hn.out⟩
        case measure => simp [intOf]; omega
      · have llt : ¬ (k : Int) < (l.length : Int) := by omega
        clear hk1 hk kk0 HB HBa
        obtain ⟨d0, d1⟩ := Hbo.out.cells.c2
        simp only [Nat.zero_add] at d1
        obtain ⟨oc, hoc⟩ : ∃ oc, okL (ofErr cols l) cols = oc := ⟨_, rfl⟩
        obtain ⟨ol, hol⟩ : ∃ ol, okL (ofErr cols l) (relCanon l) = ol := ⟨_, rfl⟩
        have Hos : Hid (∀ x ∈ ol, ∀ a ∈ x, a.s.length ≤ 9223372036854775807) := Lib.hid (fun x hx => Hrs.out x (relCanon_mem (okL_mem (by rw [hol]; exact hx))))
        go_wp2_with fail
        refine OfK_any w.heap.size w1.heap.size w.heap.size w1.heap.size cols l _ _ wo Hca.out Hva.out (by omega) (by omega) (by omega) (fun x hx => by have := Hxl.out x hx; omega) _ (fun w5 cv5 lv5 hs5 hB5 hT5 hR5 => ?_)
        rw [hoc] at hT5
        rw [hol] at hR5
        obtain ⟨p5, q5, rfl⟩ := Own.slice hT5
        obtain ⟨p6, q6, e6⟩ := Own.slice hR5.own
        rw [hR5.len] at e6
        subst e6
        have HB5 := Lib.hid hB5
        have HT5 := Lib.hid hT5
        have HR5 := Lib.hid hR5
        have hz5 := hB5.size
        clear hB5 hT5 hR5
        clear d0 d1
        go_upto_region 10 with fail
        have hBa := alloc_below w5 (.cells #[.slice p5 oc.length q5, .slice p6 ol.length q6] 34)
        have hba := Blk.new w5 [.slice p5 oc.length q5, .slice p6 ol.length q6] 34 rfl
        generalize w5.alloc (.cells #[.slice p5 oc.length q5, .slice p6 ol.length q6] 34) = w6 at *
        have HB6 := Lib.hid hBa
        have Hb6 := Lib.hid hba
        have hz6 := hBa.size
        have hl6 := hba.lt
        have HW6 := Lib.hid (HBw.out.trans ((HB5.out.mono hzo).trans (HB6.out.mono (by omega))))
        clear hBa hba
        go_wp2_with fail
        refine refOfK_any lo hi lc hc cols _ _ l _ w6 (Sl.below Hc.out Strs.loc HW6.out hhc) (by omega) (Sl.below Hv.out rowE_loc HW6.out hhi) (by omega) (by omega) (fun x hx => by have := Hxl.out x hx; omega) Hrs.out _ (fun w7 cv7 lv7 hB7 hT7 hR7 => ?_)
        rw [hoc] at hT7
        rw [hol] at hR7
        obtain ⟨p7, q7, rfl, -, -, -, -⟩ := hT7.form
        obtain ⟨p8, q8, rfl, -, -, -, -⟩ := hR7.form
        have HB7 := Lib.hid hB7
        have HT7 := Lib.hid hT7
        have HR7 := Lib.hid hR7
        have hz7 := hB7.size
        clear hB7 hT7 hR7
        go_upto_region 11 with fail
        have hBa := alloc_below w7 (.cells #[.slice p7 oc.length q7, .slice p8 ol.length q8] 53)
        have hba := Blk.new w7 [.slice p7 oc.length q7, .slice p8 ol.length q8] 53 rfl
        generalize w7.alloc (.cells #[.slice p7 oc.length q7, .slice p8 ol.length q8] 53) = w8 at *
        have HB8 := Lib.hid hBa
        have hz8 := hBa.size
        have hl8 := hba.lt
        have HB58 := Lib.hid ((HB6.out.trans (HB7.out.mono (by omega))).trans (HB8.out.mono (by omega)))
        have HBo8 := Lib.hid (HB5.out.trans (HB58.out.mono hz5))
        obtain ⟨d0, d1⟩ := (Hb6.out.below (HB7.out.trans (HB8.out.mono hz7)) hl6).cells.c2
        obtain ⟨e0, e1⟩ := hba.cells.c2
        simp only [Nat.zero_add] at d1 e1
        clear hBa hba
        go_wp2_with fail
        refine told_any wo.heap.size 0 w7.heap.size 0 w7.heap.size oc ol hs5 _ _ _ _ _ w8 (by omega) (Own.kept HT5.out HB58.out) (Sl.below HT7.out Strs.loc HB8.out (Nat.le_refl _)) (OwnR.kept HR5.out HB58.out) (Sl.below HR7.out rowE_loc HB8.out (Nat.le_refl _)) (by omega) (by omega) Hos.out _ (fun w9 hB9 => ?_)
        have HBo9 := Lib.hid (HBo8.out.trans hB9)
        have hz9 := HBo9.out.size
        obtain ⟨d0, d1⟩ := (Hbo.out.below HBo9.out (by omega)).cells.c2
        simp only [Nat.zero_add] at d1
        clear hB9
        go_wp2_with fail
        refine lawSame_any w.heap.size w1.heap.size lo hi w.heap.size w1.heap.size lc hc cols l _ _ _ _ w9 (Sl.below Hca.out Strs.loc HBo9.out (by omega)) (Sl.below Hcl.out Strs.loc HBo9.out (by omega)) (Sl.below Hva.out rowE_loc HBo9.out (by omega)) (Sl.below Hvl.out rowE_loc HBo9.out (by omega)) (by omega) (by omega) (by omega) (by omega) Hrs.out _ (fun w10 hB10 => ?_)
        have hr := HR.out w10 ((HBw.out.trans (HBo9.out.mono hzo)).trans (hB10.mono (by omega)))
        clear hB10
        go_wp2_with fail
        first | exact hr | exact fin hr rfl
  · have hr := HR.out w (Below.refl _ _)
    clear hg
    go_wp2_with fail
    first | exact hr | exact fin hr rfl
end Go.Proofs.Ytpncblagjkbemaa
