/- The document's Same on relations that are alike. (Printed by rown.py.) -/
import Derived.Test.YtpncblagjkbemaaRowM
namespace Go.Proofs.Ytpncblagjkbemaa
open Go.RowKit
set_option linter.unusedVariables false
set_option linter.unusedSimpArgs false

theorem cmpR_self (x : List V) : cmpR x x = 0 := by rw [cmpR_cmp.self]
set_option maxRecDepth 100000 in
set_option maxHeartbeats 4000000 in
theorem Same_any (lo hi lo2 hi2 lc hc lc2 hc2 : Nat) (cols : List S) (l : List (List V)) (ca cb la lb : Value) (w : World) (hca : Strs lc hc w ca cols) (hcb : Strs lc2 hc2 w cb cols) (hla : Rws lo hi w la l) (hlb : Rws lo2 hi2 w lb l) (h1 : hc ≤ w.heap.size) (h2 : hc2 ≤ w.heap.size) (h3 : hi ≤ w.heap.size) (h4 : hi2 ≤ w.heap.size) (hrs : ∀ x ∈ l, ∀ a ∈ x, a.s.length ≤ 9223372036854775807) (R : Ending → World → Prop)
    (hR : ∀ w', Below w.heap.size w w' → R (.returned (.bool true)) w') : Calls Try.prog 56 #[.agg #[ca, la], .agg #[cb, lb]] w R := by
  have HR := Lib.hid hR
  have HCa := Lib.hid hca
  have HCb := Lib.hid hcb
  have HLa := Lib.hid hla
  have HLb := Lib.hid hlb
  have Hrs := Lib.hid hrs
  obtain ⟨aca, cca, rfl, -, -, -, -⟩ := hca.form
  obtain ⟨acb, ccb, rfl, -, -, -, -⟩ := hcb.form
  obtain ⟨ala, cla, rfl, -, -, -, -⟩ := hla.form
  obtain ⟨alb, clb, rfl, -, -, -, -⟩ := hlb.form
  have hql := hca.len
  have hml := hla.len
  clear hR hca hcb hla hlb hrs
  obtain ⟨q, hq⟩ : ∃ q, q = cols.length := ⟨_, rfl⟩
  obtain ⟨m, hm⟩ : ∃ m, m = l.length := ⟨_, rfl⟩
  rw [← hq, ← hm]
  rw [← hq] at hql
  rw [← hm] at hml
  have Hq := Lib.hid hq
  have Hm := Lib.hid hm
  clear hq hm
  go_enter Try.func56, Try.ntmps56
  go_upto_region 1 with fail
  obtain ⟨w0, hw0⟩ : ∃ w0, w0 = (w.alloc (.cells #[.slice aca q cca, .slice ala m cla] 53)).alloc (.cells #[.slice acb q ccb, .slice alb m clb] 53) := ⟨_, rfl⟩
  have s1 : (w.alloc (.cells #[.slice aca q cca, .slice ala m cla] 53)).heap.size = w.heap.size + 1 := Array.size_push _
  have hB0 : Below w.heap.size w w0 := by
    rw [hw0]
    exact (alloc_below w _).alloc (by rw [s1]; omega) _
  have hz0 : w.heap.size + 1 < w0.heap.size := by
    rw [hw0]
    show _ < (Array.push _ _).size
    rw [Array.size_push, s1]; omega
  have hb1 : Blk w0 w.heap.size [.slice aca q cca, .slice ala m cla] 53 := by
    rw [hw0]
    exact (Blk.new w [.slice aca q cca, .slice ala m cla] _ rfl).alloc _
  have hb2 : Blk w0 (w.heap.size + 1) [.slice acb q ccb, .slice alb m clb] 53 := by
    rw [hw0]
    exact Blk.new _ [.slice acb q ccb, .slice alb m clb] _ s1.symm
  rw [← hw0]
  clear hw0 s1
  have HB0 := Lib.hid hB0
  have HA := Lib.hid hb1
  have HBb := Lib.hid hb2
  obtain ⟨d0, d1⟩ := hb1.cells.c2
  simp only [Nat.zero_add] at d1
  obtain ⟨e0, e1⟩ := hb2.cells.c2
  simp only [Nat.zero_add] at e1
  clear hB0 hb1 hb2
  go_wp2_with fail
  go_loopw [5] (fun t5 wr => ∃ k : Nat, k ≤ q ∧ t5 = .int .i64 k ∧ Below w0.heap.size w0 wr) (fun t5 _ => q - (intOf t5).toNat)
  case atStart => exact ⟨0, Nat.zero_le _, rfl, Below.refl _ _⟩
  case round =>
    obtain ⟨k, hk, rfl, hB⟩ := hrel
    obtain ⟨wo, ewo⟩ : ∃ x, x = wr := ⟨_, rfl⟩
    subst ewo
    have hz := hB.size
    have HB := Lib.hid hB
    have HBw := Lib.hid (HB0.out.trans (hB.mono (by omega)))
    have kk0 : (0 : Int) ≤ (k : Int) := by omega
    have Hb1 := Lib.hid (HA.out.below hB (by omega))
    have Hb2 := Lib.hid (HBb.out.below hB hz0)
    clear hB d0 d1 e0 e1
    obtain ⟨d0, d1⟩ := Hb1.out.cells.c2
    simp only [Nat.zero_add] at d1
    obtain ⟨e0, e1⟩ := Hb2.out.cells.c2
    simp only [Nat.zero_add] at e1
    by_cases hlt : k < q
    · have hltc : k < cols.length := by rw [← Hq.out]; exact hlt
      obtain ⟨ao', cap', e', -, -, -, hc⟩ := (Sl.below HCa.out Strs.loc HBw.out h1).form
      injection e' with e1' e2' e3'
      subst e1' e3'
      obtain ⟨bx, ox, rfl, hb1, hb2, hcc⟩ := hc k hltc
      obtain ⟨cs, _, hcs, rfl⟩ := hcc k hltc
      have gx := hcs.c1
      rw [Nat.mul_one] at gx
      clear hc hcc hcs
      obtain ⟨ao', cap', e', -, -, -, hc⟩ := (Sl.below HCb.out Strs.loc HBw.out h2).form
      injection e' with e1' e2' e3'
      subst e1' e3'
      obtain ⟨by_, oy, rfl, hb3, hb4, hcc⟩ := hc k hltc
      obtain ⟨cs, _, hcs, rfl⟩ := hcc k hltc
      have gy := hcs.c1
      rw [Nat.mul_one] at gy
      clear hc hcc hcs
      generalize cols[k] = c at *
      have kkl : (k : Int) < (q : Int) := by omega
      go_upto_region 6 with fail
      refine wp_region_held_drew (S := fun w' => w' = wo.drew) (by kernel_rfl) rfl (fun hHeld => ?_)
      refine wpAnyH_take (i := 0) (v := .pointer (some ⟨w.heap.size, 0, none⟩)) rfl (by kernel_rfl) (by kernel_rfl) (by kernel_rfl) (fun _ _ _ h => h) (Or.inl ⟨by rfl, ?_⟩) hHeld ?_
      · intro w' hSw; subst hSw; go_simp <;> omega
      try simp only [Act.put, List.getElem_toArray, List.getElem_cons_succ, List.getElem_cons_zero, List.setIfInBounds_toArray, List.set_cons_zero, List.set_cons_succ]
      refine wpAnyH_take (i := 1) (v := .slice (some ⟨bx, ox, none⟩) q cca) rfl (by kernel_rfl) (by kernel_rfl) (by kernel_rfl) (fun _ _ _ h => h) (Or.inl ⟨by rfl, ?_⟩) hHeld ?_
      · intro w' hSw; subst hSw; have kx := d0; go_simp
      try simp only [Act.put, List.getElem_toArray, List.getElem_cons_succ, List.getElem_cons_zero, List.setIfInBounds_toArray, List.set_cons_zero, List.set_cons_succ]
      refine wpAnyH_take (i := 2) (v := .int .i64 ((k : Int))) rfl (by kernel_rfl) (by kernel_rfl) (by kernel_rfl) (fun _ _ _ h => h) (Or.inl ⟨by rfl, ?_⟩) hHeld ?_
      · intro w' hSw; subst hSw; go_simp <;> omega
      try simp only [Act.put, List.getElem_toArray, List.getElem_cons_succ, List.getElem_cons_zero, List.setIfInBounds_toArray, List.set_cons_zero, List.set_cons_succ]
      refine wpAnyH_take (i := 3) (v := .pointer (some ⟨bx, ox + k, none⟩)) rfl (by kernel_rfl) (by kernel_rfl) (by kernel_rfl) (fun _ _ _ h => h) (Or.inl ⟨by rfl, ?_⟩) hHeld ?_
      · intro w' hSw; subst hSw; go_simp <;> omega
      try simp only [Act.put, List.getElem_toArray, List.getElem_cons_succ, List.getElem_cons_zero, List.setIfInBounds_toArray, List.set_cons_zero, List.set_cons_succ]
      refine wpAnyH_take (i := 4) (v := .string ⟨c.toArray⟩) rfl (by kernel_rfl) (by kernel_rfl) (by kernel_rfl) (fun _ _ _ h => h) (Or.inl ⟨by rfl, ?_⟩) hHeld ?_
      · intro w' hSw; subst hSw; have kx := gx; go_simp
      try simp only [Act.put, List.getElem_toArray, List.getElem_cons_succ, List.getElem_cons_zero, List.setIfInBounds_toArray, List.set_cons_zero, List.set_cons_succ]
      refine wpAnyH_take (i := 5) (v := .pointer (some ⟨w.heap.size + 1, 0, none⟩)) rfl (by kernel_rfl) (by kernel_rfl) (by kernel_rfl) (fun _ _ _ h => h) (Or.inl ⟨by rfl, ?_⟩) hHeld ?_
      · intro w' hSw; subst hSw; go_simp <;> omega
      try simp only [Act.put, List.getElem_toArray, List.getElem_cons_succ, List.getElem_cons_zero, List.setIfInBounds_toArray, List.set_cons_zero, List.set_cons_succ]
      refine wpAnyH_take (i := 6) (v := .slice (some ⟨by_, oy, none⟩) q ccb) rfl (by kernel_rfl) (by kernel_rfl) (by kernel_rfl) (fun _ _ _ h => h) (Or.inl ⟨by rfl, ?_⟩) hHeld ?_
      · intro w' hSw; subst hSw; have kx := e0; go_simp
      try simp only [Act.put, List.getElem_toArray, List.getElem_cons_succ, List.getElem_cons_zero, List.setIfInBounds_toArray, List.set_cons_zero, List.set_cons_succ]
      refine wpAnyH_take (i := 7) (v := .int .i64 ((k : Int))) rfl (by kernel_rfl) (by kernel_rfl) (by kernel_rfl) (fun _ _ _ h => h) (Or.inl ⟨by rfl, ?_⟩) hHeld ?_
      · intro w' hSw; subst hSw; go_simp <;> omega
      try simp only [Act.put, List.getElem_toArray, List.getElem_cons_succ, List.getElem_cons_zero, List.setIfInBounds_toArray, List.set_cons_zero, List.set_cons_succ]
      refine wpAnyH_take (i := 8) (v := .pointer (some ⟨by_, oy + k, none⟩)) rfl (by kernel_rfl) (by kernel_rfl) (by kernel_rfl) (fun _ _ _ h => h) (Or.inl ⟨by rfl, ?_⟩) hHeld ?_
      · intro w' hSw; subst hSw; go_simp <;> omega
      try simp only [Act.put, List.getElem_toArray, List.getElem_cons_succ, List.getElem_cons_zero, List.setIfInBounds_toArray, List.set_cons_zero, List.set_cons_succ]
      refine wpAnyH_take (i := 9) (v := .string ⟨c.toArray⟩) rfl (by kernel_rfl) (by kernel_rfl) (by kernel_rfl) (fun _ _ _ h => h) (Or.inl ⟨by rfl, ?_⟩) hHeld ?_
      · intro w' hSw; subst hSw; have kx := gy; go_simp
      try simp only [Act.put, List.getElem_toArray, List.getElem_cons_succ, List.getElem_cons_zero, List.setIfInBounds_toArray, List.set_cons_zero, List.set_cons_succ]
      refine wpAnyH_take (i := 10) (v := .bool false) rfl (by kernel_rfl) (by kernel_rfl) (by kernel_rfl) (fun _ _ _ h => h) (Or.inl ⟨by rfl, ?_⟩) hHeld ?_
      · intro w' hSw; subst hSw; go_simp <;> omega
      try simp only [Act.put, List.getElem_toArray, List.getElem_cons_succ, List.getElem_cons_zero, List.setIfInBounds_toArray, List.set_cons_zero, List.set_cons_succ]
      refine wpAnyH_done (by kernel_rfl) ?_ _
      clear hHeld
      go_wp2_with fail
      go_roundw
      case rel => exact ⟨k + 1, by omega, by go_num, HB.out.drew⟩
      case measure => simp [intOf]; omega
    · obtain rfl : k = q := by omega
      go_upto_region 8 with fail
      go_wp2_with fail
      go_loopw [6] (fun t6 wr => ∃ k : Nat, k ≤ m ∧ t6 = .int .i64 k ∧ Below w0.heap.size w0 wr) (fun t6 _ => m - (intOf t6).toNat)
      case atStart => exact ⟨0, Nat.zero_le _, rfl, HB.out⟩
      case round =>
        clear HB HBw Hb1 Hb2 d0 d1 e0 e1 hz kk0
        obtain ⟨k, hk, rfl, hB⟩ := hrel
        obtain ⟨wo, ewo⟩ : ∃ x, x = wr := ⟨_, rfl⟩
        subst ewo
        have hz := hB.size
        have HB := Lib.hid hB
        have HBw := Lib.hid (HB0.out.trans (hB.mono (by omega)))
        have kk0 : (0 : Int) ≤ (k : Int) := by omega
        have Hb1 := Lib.hid (HA.out.below hB (by omega))
        have Hb2 := Lib.hid (HBb.out.below hB hz0)
        clear hB
        have hl1 : w.heap.size < wo.heap.size := by omega
        have hl2 : w.heap.size + 1 < wo.heap.size := by omega
        obtain ⟨d0, d1⟩ := Hb1.out.cells.c2
        simp only [Nat.zero_add] at d1
        by_cases hlt : k < m
        · have hltl : k < l.length := by rw [← Hm.out]; exact hlt
          obtain ⟨ao', cap', e', -, -, -, hc⟩ := (Sl.below HLa.out rowE_loc HBw.out h3).form
          injection e' with e1' e2' e3'
          subst e1' e3'
          obtain ⟨bx, ox, rfl, hb1, hb2, hcc⟩ := hc k hltl
          obtain ⟨cs, _, hcs, sv, rfl, hsv⟩ := hcc k hltl
          have Hca := Lib.hid hcs
          have Hrx := Lib.hid hsv
          obtain ⟨ax, cx, rfl, -, -, -, -⟩ := hsv.form
          clear hc hcc hcs hsv
          obtain ⟨ao', cap', e', -, -, -, hc⟩ := (Sl.below HLb.out rowE_loc HBw.out h4).form
          injection e' with e1' e2' e3'
          subst e1' e3'
          obtain ⟨by_, oy, rfl, hb3, hb4, hcc⟩ := hc k hltl
          obtain ⟨cs, _, hcs, sv, rfl, hsv⟩ := hcc k hltl
          have Hcb := Lib.hid hcs
          have Hry := Lib.hid hsv
          obtain ⟨ay, cy, rfl, -, -, -, -⟩ := hsv.form
          clear hc hcc hcs hsv
          have hbxw : bx < wo.heap.size := by omega
          have hbyw : by_ < wo.heap.size := by omega
          have Hsx := Lib.hid (Hrs.out _ (List.getElem_mem hltl))
          generalize l[k] = x at *
          have kkl : (k : Int) < (m : Int) := by omega
          go_upto_region 11 with fail
          have hS0 : Below wo.heap.size wo wo.drew := (Below.refl _ _).drew
          refine wp_region_held_drew (S := fun w' => Below wo.heap.size wo w') (by kernel_rfl) hS0 (fun hHeld => ?_)
          refine wpAnyH_take (i := 0) (v := .pointer (some ⟨w.heap.size, 1, none⟩)) rfl (by kernel_rfl) (by kernel_rfl) (by kernel_rfl) (fun _ _ _ h => h) (Or.inl ⟨by rfl, ?_⟩) hHeld ?_
          · intro w' hSw; go_simp
          try simp only [Act.put, List.getElem_toArray, List.getElem_cons_succ, List.getElem_cons_zero, List.setIfInBounds_toArray, List.set_cons_zero, List.set_cons_succ]
          refine wpAnyH_take (i := 1) (v := .slice (some ⟨bx, ox, none⟩) m cla) rfl (by kernel_rfl) (by kernel_rfl) (by kernel_rfl) (fun _ _ _ h => h) (Or.inl ⟨by rfl, ?_⟩) hHeld ?_
          · intro w' hSw; obtain ⟨z0, z1⟩ := (Hb1.out.below hSw hl1).cells.c2; simp only [Nat.zero_add] at z1; go_simp
          try simp only [Act.put, List.getElem_toArray, List.getElem_cons_succ, List.getElem_cons_zero, List.setIfInBounds_toArray, List.set_cons_zero, List.set_cons_succ]
          refine wpAnyH_take (i := 2) (v := .int .i64 ((k : Int))) rfl (by kernel_rfl) (by kernel_rfl) (by kernel_rfl) (fun _ _ _ h => h) (Or.inl ⟨by rfl, ?_⟩) hHeld ?_
          · intro w' hSw; go_simp
          try simp only [Act.put, List.getElem_toArray, List.getElem_cons_succ, List.getElem_cons_zero, List.setIfInBounds_toArray, List.set_cons_zero, List.set_cons_succ]
          refine wpAnyH_take (i := 3) (v := .pointer (some ⟨bx, ox + k, none⟩)) rfl (by kernel_rfl) (by kernel_rfl) (by kernel_rfl) (fun _ _ _ h => h) (Or.inl ⟨by rfl, ?_⟩) hHeld ?_
          · intro w' hSw; go_simp
          try simp only [Act.put, List.getElem_toArray, List.getElem_cons_succ, List.getElem_cons_zero, List.setIfInBounds_toArray, List.set_cons_zero, List.set_cons_succ]
          refine wpAnyH_take (i := 4) (v := .slice ax x.length cx) rfl (by kernel_rfl) (by kernel_rfl) (by kernel_rfl) (fun _ _ _ h => h) (Or.inl ⟨by rfl, ?_⟩) hHeld ?_
          · intro w' hSw; have kx := (Hca.out.agree (.below hSw (Nat.le_refl _)) (Nat.zero_le _) hbxw).c1; rw [Nat.mul_one] at kx; go_simp
          try simp only [Act.put, List.getElem_toArray, List.getElem_cons_succ, List.getElem_cons_zero, List.setIfInBounds_toArray, List.set_cons_zero, List.set_cons_succ]
          refine wpAnyH_take (i := 5) (v := .pointer (some ⟨w.heap.size + 1, 1, none⟩)) rfl (by kernel_rfl) (by kernel_rfl) (by kernel_rfl) (fun _ _ _ h => h) (Or.inl ⟨by rfl, ?_⟩) hHeld ?_
          · intro w' hSw; go_simp
          try simp only [Act.put, List.getElem_toArray, List.getElem_cons_succ, List.getElem_cons_zero, List.setIfInBounds_toArray, List.set_cons_zero, List.set_cons_succ]
          refine wpAnyH_take (i := 6) (v := .slice (some ⟨by_, oy, none⟩) m clb) rfl (by kernel_rfl) (by kernel_rfl) (by kernel_rfl) (fun _ _ _ h => h) (Or.inl ⟨by rfl, ?_⟩) hHeld ?_
          · intro w' hSw; obtain ⟨z0, z1⟩ := (Hb2.out.below hSw hl2).cells.c2; simp only [Nat.zero_add] at z1; go_simp
          try simp only [Act.put, List.getElem_toArray, List.getElem_cons_succ, List.getElem_cons_zero, List.setIfInBounds_toArray, List.set_cons_zero, List.set_cons_succ]
          refine wpAnyH_take (i := 7) (v := .int .i64 ((k : Int))) rfl (by kernel_rfl) (by kernel_rfl) (by kernel_rfl) (fun _ _ _ h => h) (Or.inl ⟨by rfl, ?_⟩) hHeld ?_
          · intro w' hSw; go_simp
          try simp only [Act.put, List.getElem_toArray, List.getElem_cons_succ, List.getElem_cons_zero, List.setIfInBounds_toArray, List.set_cons_zero, List.set_cons_succ]
          refine wpAnyH_take (i := 8) (v := .pointer (some ⟨by_, oy + k, none⟩)) rfl (by kernel_rfl) (by kernel_rfl) (by kernel_rfl) (fun _ _ _ h => h) (Or.inl ⟨by rfl, ?_⟩) hHeld ?_
          · intro w' hSw; go_simp
          try simp only [Act.put, List.getElem_toArray, List.getElem_cons_succ, List.getElem_cons_zero, List.setIfInBounds_toArray, List.set_cons_zero, List.set_cons_succ]
          refine wpAnyH_take (i := 9) (v := .slice ay x.length cy) rfl (by kernel_rfl) (by kernel_rfl) (by kernel_rfl) (fun _ _ _ h => h) (Or.inl ⟨by rfl, ?_⟩) hHeld ?_
          · intro w' hSw; have kx := (Hcb.out.agree (.below hSw (Nat.le_refl _)) (Nat.zero_le _) hbyw).c1; rw [Nat.mul_one] at kx; go_simp
          try simp only [Act.put, List.getElem_toArray, List.getElem_cons_succ, List.getElem_cons_zero, List.setIfInBounds_toArray, List.set_cons_zero, List.set_cons_succ]
          refine wpAnyH_ready (rs := [10]) (by kernel_rfl) (by simp) ?_
          refine allCall (f := 25) (args := #[.slice ax x.length cx, .slice ay x.length cy]) rfl (by kernel_rfl) (by kernel_rfl) ?_ AllReadyH.nil
          refine refRowsCompare_any lo hi lo2 hi2 x x _ _ wo.drew (Sl.below Hrx.out Row1.loc hS0 (by omega)) (Sl.below Hry.out Row1.loc hS0 (by omega)) (by show hi ≤ wo.heap.size; omega) (by show hi2 ≤ wo.heap.size; omega) Hsx.out Hsx.out _ (fun w5 hB5 => ?_)
          rw [cmpR_self]
          refine ⟨_, rfl, hS0.trans (hB5.mono (Nat.le_refl _)), ?_⟩
          have HB5 := Lib.hid (hS0.trans (hB5.mono (Nat.le_refl _)))
          clear hB5 hHeld
          have hHeld := HB5.out
          try simp only [Act.put, List.getElem_toArray, List.getElem_cons_succ, List.getElem_cons_zero, List.setIfInBounds_toArray, List.set_cons_zero, List.set_cons_succ]
          refine wpAnyH_take (i := 11) (v := .int .i64 0) rfl (by kernel_rfl) (by kernel_rfl) (by kernel_rfl) (fun _ _ _ h => h) (Or.inl ⟨by rfl, ?_⟩) hHeld ?_
          · intro w' hSw; go_simp
          try simp only [Act.put, List.getElem_toArray, List.getElem_cons_succ, List.getElem_cons_zero, List.setIfInBounds_toArray, List.set_cons_zero, List.set_cons_succ]
          refine wpAnyH_done (by kernel_rfl) ?_ _
          clear hHeld
          go_wp2_with fail
          go_roundw
          case rel => exact ⟨k + 1, by omega, by go_num, HB.out.trans (HB5.out.mono hz)⟩
          case measure => simp [intOf]; omega
        · obtain rfl : k = m := by omega
          have llt : ¬ ((k : Nat) : Int) < (k : Int) := by omega
          have hr := HR.out _ HBw.out
          go_wp2_with fail
          first | exact hr | exact fin hr rfl
end Go.Proofs.Ytpncblagjkbemaa
