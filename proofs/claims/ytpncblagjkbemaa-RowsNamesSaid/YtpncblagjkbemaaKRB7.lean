/- A relation of an argument, opened. -/
import Derived.Test.YtpncblagjkbemaaRows
import Derived.ProofKit
import Derived.OpenShut
import Derived.ShutString
import Derived.ChangeOld
import Derived.JoinedCond
import Derived.Deep.Slices
import Derived.Test.YtpncblagjkbemaaKRB6
/- The law RowsMeets, walked. (Printed by meq.py, meq2.py, merf.py.) -/
section
set_option linter.unusedVariables false
set_option linter.unusedSimpArgs false
namespace Go.Proofs.Ytpncblagjkbemaa
open Go.RowKit
set_option linter.unusedVariables false
set_option linter.unusedSimpArgs false
attribute [local go_sem ↓] Go.wp_at_zero Go.wp_at_succ

/-- A piece of code by way of what it leaves. -/
def viaP (Φ : Act → World → Prop) : Exit → Act → World → Prop
  | .normal, a, w => Φ a w
  | _, _, _ => False
theorem wp_via {P : Program} {c : Code} {Q : Exit → Act → World → Prop} {a : Act} {w : World} (Φ : Act → Act → World → Prop) (h1 : c.wp P (viaP (Φ a)) a w) (h2 : ∀ a' w', Φ a a' w' → Q .normal a' w') : c.wp P Q a w :=
  wp_mono h1 (fun e a w h => by cases e <;> first | exact h2 _ _ h | exact h.elim)
set_option maxRecDepth 100000 in
set_option maxHeartbeats 8000000 in
theorem RowsMeets_any (lo hi lc hc l3 h3 l4 h4 : Nat) (rc sc : List S) (ac as_ : Option Addr) (cc cs : Nat) (l m : List (List V)) (lv mv : Value) (w : World) (hrc : Strs lc hc w (.slice ac rc.length cc) rc) (hhc : hc ≤ w.heap.size) (hv : Rws lo hi w lv l) (hhi : hi ≤ w.heap.size) (hsc : Strs l3 h3 w (.slice as_ sc.length cs) sc) (hh3 : h3 ≤ w.heap.size) (hm : Rws l4 h4 w mv m) (hh4 : h4 ≤ w.heap.size)
    (hrs : ∀ x ∈ l, ∀ a ∈ x, a.s.length ≤ 9223372036854775807) (hms : ∀ x ∈ m, ∀ a ∈ x, a.s.length ≤ 9223372036854775807) (R : Ending → World → Prop)
    (hR : ∀ w', Below w.heap.size w w' → R (.returned (.bool true)) w') : Calls Try.prog 7 #[.agg #[.slice ac rc.length cc, lv], .agg #[.slice as_ sc.length cs, mv]] w R := by
  have HR := Lib.hid hR
  have Hl0 := Lib.hid hv
  have Hrc0 := Lib.hid hrc
  have Hsc0 := Lib.hid hsc
  have Hm0 := Lib.hid hm
  have Hrs := Lib.hid hrs
  have Hms := Lib.hid hms
  obtain ⟨av, cv2, rfl, -, -, -, -⟩ := hv.form
  obtain ⟨am, cm, rfl, -, -, -, -⟩ := hm.form
  clear hR hv hrc hsc hm hrs hms
  obtain ⟨wb, ewb⟩ : ∃ x, x = w.alloc (.cells #[.slice ac rc.length cc, .slice av l.length cv2] 34) := ⟨_, rfl⟩
  obtain ⟨wa, ewa⟩ : ∃ x, x = wb.alloc (.cells #[.slice as_ sc.length cs, .slice am m.length cm] 34) := ⟨_, rfl⟩
  have sb : wb.heap.size = w.heap.size + 1 := by rw [ewb]; simp
  have hB1 : Below w.heap.size w wb := by rw [ewb]; exact alloc_below _ _
  have hB2 : Below wb.heap.size wb wa := by rw [ewa]; exact alloc_below _ _
  have hb1 : Blk wb w.heap.size [.slice ac rc.length cc, .slice av l.length cv2] 34 := by rw [ewb]; exact Blk.new w [.slice ac rc.length cc, .slice av l.length cv2] _ rfl
  have hb2 : Blk wa (w.heap.size + 1) [.slice as_ sc.length cs, .slice am m.length cm] 34 := by rw [ewa]; exact Blk.new wb [.slice as_ sc.length cs, .slice am m.length cm] _ sb.symm
  have hb1 := hb1.below hB2 hb1.lt
  have hBa := hB1.trans (hB2.mono hB1.size)
  go_enter Try.func7, Try.ntmps7
  go_upto_region 1 with fail
  rw [← ewb, ← ewa]
  have HBa := Lib.hid hBa
  have Hba := Lib.hid hb1
  have Hbs0 := Lib.hid hb2
  have hza := hBa.size
  have hla := hb1.lt
  have hlas := hb2.lt
  clear ewb ewa sb hB1 hB2 hb1 hb2 hBa
  obtain ⟨c0, c1⟩ := (Hba.out).cells.c2
  simp only [Nat.zero_add] at c1
  obtain ⟨d0, d1⟩ := (Hbs0.out).cells.c2
  simp only [Nat.zero_add] at d1
  go_wp2_with fail
  refine great_any lo hi rc ac cc l _ wa (Sl.below Hl0.out rowE_loc HBa.out hhi) _ ?_
  cases hg : greatB rc l
  case true =>
    have hr := HR.out wa HBa.out
    clear hg
    go_wp2_with fail
    first | exact hr | exact fin hr rfl
  obtain ⟨hcl, hll, hxl⟩ := great_no hg
  have Hxl := Lib.hid hxl
  clear hg hxl
  go_wp2_with fail
  refine great_any l4 h4 sc as_ cs m _ wa (Sl.below Hm0.out rowE_loc HBa.out hh4) _ ?_
  cases hg : greatB sc m
  case true =>
    have hr := HR.out wa HBa.out
    clear hg
    go_wp2_with fail
    first | exact hr | exact fin hr rfl
  obtain ⟨hsl, hml, hxm⟩ := great_no hg
  have Hxm := Lib.hid hxm
  clear hg hxm
  go_wp2_with fail
  refine lawOwn_any lo hi lc hc rc ac cc l _ wa (Sl.below Hrc0.out Strs.loc HBa.out hhc) (by omega) (Sl.below Hl0.out rowE_loc HBa.out hhi) (by omega) (by omega) (by omega) (fun x hx => by have := Hxl.out x hx; omega) _ (fun w1 ycv ylv hB1 hyc hyl => ?_)
  have HB1 := Lib.hid hB1
  have Hyc1 := Lib.hid hyc
  have Hyl1 := Lib.hid hyl
  have hz1 := hB1.size
  obtain ⟨ayc, cyc, rfl, -, -, -, -⟩ := hyc.form
  obtain ⟨ayl, cyl, rfl, -, -, -, -⟩ := hyl.form
  clear hB1 hyc hyl c0 c1 d0 d1
  go_upto_region 4 with fail
  have hBa := alloc_below w1 (.cells #[.slice ayc rc.length cyc, .slice ayl l.length cyl] 34)
  have hba := Blk.new w1 [.slice ayc rc.length cyc, .slice ayl l.length cyl] 34 rfl
  generalize w1.alloc (.cells #[.slice ayc rc.length cyc, .slice ayl l.length cyl] 34) = w2 at *
  have Hby2 := Lib.hid hba
  have hz2 := hBa.size
  have hby := hba.lt
  have HBa2 := Lib.hid (HB1.out.trans (hBa.mono hz1))
  have HBw2 := Lib.hid (HBa.out.trans (HBa2.out.mono hza))
  have Hyc2 := Lib.hid (Sl.below Hyc1.out Strs.loc hBa (Nat.le_refl _))
  have Hyl2 := Lib.hid (Sl.below Hyl1.out rowE_loc hBa (Nat.le_refl _))
  clear hBa hba Hyc1 Hyl1 HB1
  obtain ⟨d0, d1⟩ := (Hbs0.out.below HBa2.out hlas).cells.c2
  simp only [Nat.zero_add] at d1
  go_wp2_with fail
  refine lawOwn_any l4 h4 l3 h3 sc as_ cs m _ w2 (Sl.below Hsc0.out Strs.loc HBw2.out hh3) (by omega) (Sl.below Hm0.out rowE_loc HBw2.out hh4) (by omega) (by omega) (by omega) (fun x hx => by have := Hxm.out x hx; omega) _ (fun w3 zcv zlv hB1 hyc hyl => ?_)
  have HB23 := Lib.hid hB1
  have Hzc1 := Lib.hid hyc
  have Hzl1 := Lib.hid hyl
  have hz3 := hB1.size
  obtain ⟨azc, czc, rfl, -, -, -, -⟩ := hyc.form
  obtain ⟨azl, czl, rfl, -, -, -, -⟩ := hyl.form
  clear hB1 hyc hyl d0 d1
  go_upto_region 5 with fail
  have hBa := alloc_below w3 (.cells #[.slice azc sc.length czc, .slice azl m.length czl] 34)
  have hba := Blk.new w3 [.slice azc sc.length czc, .slice azl m.length czl] 34 rfl
  generalize w3.alloc (.cells #[.slice azc sc.length czc, .slice azl m.length czl] 34) = w4 at *
  have Hbz := Lib.hid hba
  have hz4 := hBa.size
  have hbz := hba.lt
  have HB24 := Lib.hid (HB23.out.trans (hBa.mono hz3))
  have HBw4 := Lib.hid (HBw2.out.trans (HB24.out.mono (by omega)))
  have HBa4 := Lib.hid (HBa2.out.trans (HB24.out.mono (by omega)))
  have Hby := Lib.hid (Hby2.out.below HB24.out hby)
  have Hyc := Lib.hid (Sl.below Hyc2.out Strs.loc HB24.out (by omega))
  have Hyl := Lib.hid (Sl.below Hyl2.out rowE_loc HB24.out (by omega))
  have Hzc := Lib.hid (Sl.below Hzc1.out Strs.loc hBa (Nat.le_refl _))
  have Hzl := Lib.hid (Sl.below Hzl1.out rowE_loc hBa (Nat.le_refl _))
  have Hrc := Lib.hid (Sl.below Hrc0.out Strs.loc HBw4.out hhc)
  have Hl := Lib.hid (Sl.below Hl0.out rowE_loc HBw4.out hhi)
  have Hsc := Lib.hid (Sl.below Hsc0.out Strs.loc HBw4.out hh3)
  have Hm := Lib.hid (Sl.below Hm0.out rowE_loc HBw4.out hh4)
  have Hbr := Lib.hid (Hba.out.below HBa4.out hla)
  have Hbs := Lib.hid (Hbs0.out.below HBa4.out hlas)
  clear hBa hba Hyc2 Hyl2 Hzc1 Hzl1 Hrc0 Hl0 Hsc0 Hm0 Hba Hbs0 HBa HBa2 HBa4 HBw2 HB23 HB24 Hby2
  have hr4 : w.heap.size + 1 < w4.heap.size := by omega
  have hy4 : w1.heap.size < w4.heap.size := by omega
  have hprod : l.length * m.length < 100000 := Nat.lt_of_le_of_lt (Nat.mul_le_mul hll hml) (by decide)
  have HA4 : Hid (Below w4.heap.size w4 w4) := Lib.hid (Below.refl _ _)
  obtain ⟨oc1, hoc1⟩ : ∃ oc, okL (joinErr rc l sc m) (joinCols rc sc) = oc := ⟨_, rfl⟩
  obtain ⟨ol1, hol1⟩ : ∃ ol, okL (joinErr rc l sc m) (relCanon (joinL rc l sc m)) = ol := ⟨_, rfl⟩
  have Hos1 : Hid (∀ x ∈ ol1, ∀ a ∈ x, a.s.length ≤ 9223372036854775807) := Lib.hid (fun x hx => by
    have h1 := relCanon_mem (okL_mem (by rw [hol1]; exact hx))
    obtain ⟨a, ha, hx⟩ := List.mem_flatMap.1 h1
    obtain ⟨y, hy, rfl⟩ := List.mem_map.1 hx
    intro z hz
    rcases List.mem_append.1 hz with hz | hz
    · exact Hrs.out a ha z hz
    · exact pick_str (Hms.out y (List.mem_filter.1 hy).1) z hz)
  obtain ⟨c0, c1⟩ := ((Hby.out.below HA4.out hy4)).cells.c2
  simp only [Nat.zero_add] at c1
  obtain ⟨d0, d1⟩ := ((Hbz.out.below HA4.out hbz)).cells.c2
  simp only [Nat.zero_add] at d1
  go_wp2_with fail
  refine Join_any wa.heap.size w1.heap.size wa.heap.size w1.heap.size w2.heap.size w3.heap.size w2.heap.size w3.heap.size rc sc _ _ _ _ l m _ _ w4 Hyc.out (by omega) Hyl.out (by omega) Hzc.out (by omega) Hzl.out (by omega) hprod _ (fun w5 cv3 lv3 hs3 hB3 hT3 hR3 => ?_)
  rw [hoc1] at hT3
  rw [hol1] at hR3
  obtain ⟨p3, q3, rfl⟩ := Own.slice hT3
  obtain ⟨p4, q4, e4⟩ := Own.slice hR3.own
  rw [hR3.len] at e4
  subst e4
  have HA5 := Lib.hid hB3
  have hz5 := hB3.size
  clear c0 c1 d0 d1
  go_upto_region 6 with fail
  have hBa := alloc_below w5 (.cells #[.slice p3 oc1.length q3, .slice p4 ol1.length q4] 34)
  have hba := Blk.new w5 [.slice p3 oc1.length q3, .slice p4 ol1.length q4] 34 rfl
  have hT6 := Own.kept hT3 hBa
  have hR6 := OwnR.kept hR3 hBa
  generalize w5.alloc (.cells #[.slice p3 oc1.length q3, .slice p4 ol1.length q4] 34) = w6 at *
  have HA6 := Lib.hid (HA5.out.trans (hBa.mono (by omega)))
  have Hb8 := Lib.hid hba
  have HT6 := Lib.hid hT6
  have HR6 := Lib.hid hR6
  have hz6 := hBa.size
  have hl8 := hba.lt
  obtain ⟨b8, eb8⟩ : ∃ b8, b8 = w5.heap.size := ⟨_, rfl⟩
  rw [← eb8] at Hb8 hl8 ⊢
  have h4b8 : w4.heap.size ≤ b8 := by omega
  clear hBa hba hT3 hR3 hT6 hR6 hB3 eb8
  refine wp_via (fun a0 a' w' => ∃ (b10 : Nat) (wr : World) (cv6 lv6 : Value), w4.heap.size ≤ b10 ∧ b10 ≠ b8 ∧ Below w6.heap.size w6 w' ∧ wr.heap.size ≤ w'.heap.size ∧ w6.heap.size ≤ wr.heap.size ∧ Blk w' b10 [cv6, lv6] 53 ∧ (∃ p c, cv6 = .slice p oc1.length c) ∧ (∃ p c, lv6 = .slice p ol1.length c) ∧ (∃ lo1 hi1 lo2 hi2, hi1 ≤ w'.heap.size ∧ hi2 ≤ w'.heap.size ∧ w4.heap.size ≤ lo1 ∧ w4.heap.size ≤ lo2 ∧ (hi1 ≤ b10 ∨ b10 < lo1) ∧ (hi2 ≤ b10 ∨ b10 < lo2) ∧ Strs lo1 hi1 w' cv6 oc1 ∧ Rws lo2 hi2 w' lv6 ol1) ∧
    ∃ u33 u34 u35 u36 u37 u38 u39 u40 : Value, a' = (((((((((a0.put (some 33) u33).put (some 34) u34).put (some 35) u35).put (some 36) u36).put (some 37) u37).put (some 38) u38).put (some 39) u39).put (some 40) u40).put (some 9) (.pointer (some ⟨b10, 0, none⟩))).put (some 10) (.int .i64 (joinErr rc l sc m))) ?via6 ?_
  case via6 =>
    have hr4' : w.heap.size < w4.heap.size := by omega
    have hS0 : Below w6.heap.size w6 w6.drew := (Below.refl _ _).drew
    refine wp_region_held_drew (S := fun w' => Below w6.heap.size w6 w') (by kernel_rfl) hS0 (fun hHeld => ?_)
    clear hS0
    generalize w6.drew = wd at *
    refine wpAnyH_take (i := 0) (v := .agg #[.slice ac rc.length cc, .slice av l.length cv2]) rfl (by kernel_rfl) (by kernel_rfl) (by kernel_rfl) (fun _ _ _ h => h) (Or.inl ⟨by rfl, ?_⟩) hHeld ?_
    · intro w' hSw; obtain ⟨z0, z1⟩ := ((Hbr.out.below HA6.out hr4').below hSw (by omega)).cells.c2; simp only [Nat.zero_add] at z1; go_simp
    try simp only [Act.put, List.getElem_toArray, List.getElem_cons_succ, List.getElem_cons_zero, List.setIfInBounds_toArray, List.set_cons_zero, List.set_cons_succ]
    refine wpAnyH_take (i := 2) (v := .agg #[.slice as_ sc.length cs, .slice am m.length cm]) rfl (by kernel_rfl) (by kernel_rfl) (by kernel_rfl) (fun _ _ _ h => h) (Or.inl ⟨by rfl, ?_⟩) hHeld ?_
    · intro w' hSw; obtain ⟨z0, z1⟩ := ((Hbs.out.below HA6.out hr4).below hSw (by omega)).cells.c2; simp only [Nat.zero_add] at z1; go_simp
    try simp only [Act.put, List.getElem_toArray, List.getElem_cons_succ, List.getElem_cons_zero, List.setIfInBounds_toArray, List.set_cons_zero, List.set_cons_succ]
    refine wpAnyH_ready (rs := [1, 8]) (by kernel_rfl) (by simp) ?_
    refine allCall (f := 32) (args := #[.agg #[.slice ac rc.length cc, .slice av l.length cv2]]) rfl (by kernel_rfl) (by kernel_rfl) ?_ ?_
    · refine ref_any _ _ _ _ _ _ wd _ (fun wq1 hB => ?_)
      refine ⟨_, rfl, hHeld.trans (hB.mono hHeld.size), ?_⟩
      have hHeld2 := hHeld.trans (hB.mono hHeld.size)
      clear hHeld
      have hHeld := hHeld2
      clear hHeld2
      clear hB
      try simp only [Act.put, List.getElem_toArray, List.getElem_cons_succ, List.getElem_cons_zero, List.setIfInBounds_toArray, List.set_cons_zero, List.set_cons_succ]
      refine wpAnyH_ready (rs := [3, 8]) (by kernel_rfl) (by simp) ?_
      refine allCall (f := 32) (args := #[.agg #[.slice as_ sc.length cs, .slice am m.length cm]]) rfl (by kernel_rfl) (by kernel_rfl) ?_ ?_
      · refine ref_any _ _ _ _ _ _ wq1 _ (fun wq2 hB => ?_)
        refine ⟨_, rfl, hHeld.trans (hB.mono hHeld.size), ?_⟩
        have hHeld2 := hHeld.trans (hB.mono hHeld.size)
        clear hHeld
        have hHeld := hHeld2
        clear hHeld2
        clear hB
        try simp only [Act.put, List.getElem_toArray, List.getElem_cons_succ, List.getElem_cons_zero, List.setIfInBounds_toArray, List.set_cons_zero, List.set_cons_succ]
        refine wpAnyH_ready (rs := [4, 8]) (by kernel_rfl) (by simp) ?_
        refine allCall (f := 42) (args := #[.agg #[.slice ac rc.length cc, .slice av l.length cv2], .agg #[.slice as_ sc.length cs, .slice am m.length cm]]) rfl (by kernel_rfl) (by kernel_rfl) ?_ ?_
        · have hzW := hHeld.size
          refine refJoin_any lc hc lo hi l3 h3 l4 h4 rc sc _ _ _ _ l m _ _ wq2 (Sl.below (Sl.below Hrc.out Strs.loc HA6.out (by omega)) Strs.loc hHeld (by omega)) (by omega) (Sl.below (Sl.below Hl.out rowE_loc HA6.out (by omega)) rowE_loc hHeld (by omega)) (by omega) (Sl.below (Sl.below Hsc.out Strs.loc HA6.out (by omega)) Strs.loc hHeld (by omega)) (by omega) (Sl.below (Sl.below Hm.out rowE_loc HA6.out (by omega)) rowE_loc hHeld (by omega)) (by omega) Hrs.out Hms.out (by omega) (by omega) _ (fun wq3 cv6 lv6 hB hT6 hR6 => ?_)
          refine ⟨_, rfl, hHeld.trans (hB.mono hHeld.size), ?_⟩
          rw [hoc1] at hT6
          rw [hol1] at hR6
          have hloW : wq2.heap.size ≤ wq3.heap.size := hB.size
          obtain ⟨p5, q5, rfl, -, -, -, -⟩ := hT6.form
          obtain ⟨p6, q6, rfl, -, -, -, -⟩ := hR6.form
          have hHeld2 := hHeld.trans (hB.mono hHeld.size)
          clear hHeld
          have hHeld := hHeld2
          clear hHeld2
          clear hB
          try simp only [Act.put, List.getElem_toArray, List.getElem_cons_succ, List.getElem_cons_zero, List.setIfInBounds_toArray, List.set_cons_zero, List.set_cons_succ]
          refine wpAnyH_take (i := 5) (v := .tuple #[.agg #[.slice p5 oc1.length q5, .slice p6 ol1.length q6], .int .i64 ((joinErr rc l sc m))]) rfl (by kernel_rfl) (by kernel_rfl) (by kernel_rfl) (fun _ _ _ h => h) (Or.inl ⟨by rfl, ?_⟩) hHeld ?_
          · intro w' hSw; go_simp
          try simp only [Act.put, List.getElem_toArray, List.getElem_cons_succ, List.getElem_cons_zero, List.setIfInBounds_toArray, List.set_cons_zero, List.set_cons_succ]
          refine wpAnyH_take (i := 6) (v := .agg #[.slice p5 oc1.length q5, .slice p6 ol1.length q6]) rfl (by kernel_rfl) (by kernel_rfl) (by kernel_rfl) (fun _ _ _ h => h) (Or.inl ⟨by rfl, ?_⟩) hHeld ?_
          · intro w' hSw; go_simp
          try simp only [Act.put, List.getElem_toArray, List.getElem_cons_succ, List.getElem_cons_zero, List.setIfInBounds_toArray, List.set_cons_zero, List.set_cons_succ]
          refine wpAnyH_take (i := 7) (v := .int .i64 ((joinErr rc l sc m))) rfl (by kernel_rfl) (by kernel_rfl) (by kernel_rfl) (fun _ _ _ h => h) (Or.inl ⟨by rfl, ?_⟩) hHeld ?_
          · intro w' hSw; go_simp
          try simp only [Act.put, List.getElem_toArray, List.getElem_cons_succ, List.getElem_cons_zero, List.setIfInBounds_toArray, List.set_cons_zero, List.set_cons_succ]
          refine wpAnyH_ready (rs := [8]) (by kernel_rfl) (by simp) ?_
          refine allVal (v := .pointer (some ⟨wq3.heap.size, 0, none⟩)) (w' := wq3.alloc (.cells #[.slice none 0 0, .slice none 0 0] 53)) rfl (by kernel_rfl) (by go_simp) (hHeld.alloc hHeld.size _) ?_ AllReadyH.nil
          try simp only [Act.put, List.getElem_toArray, List.getElem_cons_succ, List.getElem_cons_zero, List.setIfInBounds_toArray, List.set_cons_zero, List.set_cons_succ]
          have hHeld2 := hHeld.alloc hHeld.size (.cells #[.slice none 0 0, .slice none 0 0] 53)
          have hbk := Blk.new wq3 [.slice none 0 0, .slice none 0 0] 53 rfl
          obtain ⟨b10, eb10⟩ : ∃ b, b = wq3.heap.size := ⟨_, rfl⟩
          have h6b : w6.heap.size ≤ b10 := by rw [eb10]; exact hHeld.size
          have hWb : wq3.heap.size ≤ b10 := by omega
          have hal := alloc_below wq3 (.cells #[.slice none 0 0, .slice none 0 0] 53)
          have hT7 := Sl.below hT6 Strs.loc hal (Nat.le_refl _)
          have hR7 := Sl.below hR6 rowE_loc hal (Nat.le_refl _)
          clear hT6 hR6
          have hT6 := hT7
          have hR6 := hR7
          clear hT7 hR7
          generalize wq3.alloc (.cells #[.slice none 0 0, .slice none 0 0] 53) = wz at *
          rw [← eb10] at hbk ⊢
          have hbl := hbk.lt
          have Hbk := Lib.hid hbk
          clear hHeld hbk hal eb10
          have hHeld := hHeld2
          clear hHeld2
          refine wpAnyH_ready (rs := [9]) (by kernel_rfl) (by simp) ?_
          have hS1 := (hHeld.setCell (p := ⟨b10, 0, none⟩) h6b (.slice p5 oc1.length q5)).setCell (p := ⟨b10, 1, none⟩) h6b (.slice p6 ol1.length q6)
          refine allSkip (w' := (wz.setCell ⟨b10, 0, none⟩ (.slice p5 oc1.length q5)).setCell ⟨b10, 1, none⟩ (.slice p6 ol1.length q6)) rfl (by kernel_rfl) (by obtain ⟨e0, e1⟩ := Hbk.out.cells.c2; simp only [Nat.zero_add] at e1; have f0 := Hbk.out.free 0; have f1 := Hbk.out.free 1; go_simp) hS1 ?_ AllReadyH.nil
          have hHeld := hS1
          try simp only [Act.put, List.getElem_toArray, List.getElem_cons_succ, List.getElem_cons_zero, List.setIfInBounds_toArray, List.set_cons_zero, List.set_cons_succ]
          refine wpAnyH_take (i := 10) (v := .int .i64 (joinErr rc l sc m)) rfl (by kernel_rfl) (by kernel_rfl) (by kernel_rfl) (fun _ _ _ h => h) (Or.inl ⟨by rfl, ?_⟩) hHeld ?_
          · intro w' hSw; go_simp
          try simp only [Act.put, List.getElem_toArray, List.getElem_cons_succ, List.getElem_cons_zero, List.setIfInBounds_toArray, List.set_cons_zero, List.set_cons_succ]
          refine wpAnyH_done (by kernel_rfl) ?_ _
          have hsz : ((wz.setCell ⟨b10, 0, none⟩ (.slice p5 oc1.length q5)).setCell ⟨b10, 1, none⟩ (.slice p6 ol1.length q6)).heap.size = wz.heap.size := by simp
          exact ⟨b10, w6, .slice p5 oc1.length q5, .slice p6 ol1.length q6, by omega, by omega, hS1, hS1.size, Nat.le_refl _, (Hbk.out.set 0 _).set 1 _, ⟨_, _, rfl⟩, ⟨_, _, rfl⟩, ⟨wq2.heap.size, wq3.heap.size, wq2.heap.size, wq3.heap.size, by omega, by omega, by omega, by omega, by omega, by omega, Sl.agree hT6 Strs.loc (agree2Set wz (b := b10) (by omega) _ _), Sl.agree hR6 rowE_loc (agree2Set wz (b := b10) (by omega) _ _)⟩, _, _, _, _, _, _, _, _, rfl⟩
        refine allVal (v := .pointer (some ⟨wq2.heap.size, 0, none⟩)) (w' := wq2.alloc (.cells #[.slice none 0 0, .slice none 0 0] 53)) rfl (by kernel_rfl) (by go_simp) (hHeld.alloc hHeld.size _) ?_ AllReadyH.nil
        try simp only [Act.put, List.getElem_toArray, List.getElem_cons_succ, List.getElem_cons_zero, List.setIfInBounds_toArray, List.set_cons_zero, List.set_cons_succ]
        have hHeld2 := hHeld.alloc hHeld.size (.cells #[.slice none 0 0, .slice none 0 0] 53)
        have hbk := Blk.new wq2 [.slice none 0 0, .slice none 0 0] 53 rfl
        obtain ⟨b10, eb10⟩ : ∃ b, b = wq2.heap.size := ⟨_, rfl⟩
        have h6b : w6.heap.size ≤ b10 := by rw [eb10]; exact hHeld.size
        have hWb : wq2.heap.size ≤ b10 := by omega
        have hal := alloc_below wq2 (.cells #[.slice none 0 0, .slice none 0 0] 53)
        generalize wq2.alloc (.cells #[.slice none 0 0, .slice none 0 0] 53) = wl4 at *
        rw [← eb10] at hbk ⊢
        have hbl := hbk.lt
        have Hbk := Lib.hid hbk
        clear hHeld hbk hal eb10
        have hHeld := hHeld2
        clear hHeld2
        refine wpAnyH_ready (rs := [4]) (by kernel_rfl) (by simp) ?_
        refine allCall (f := 42) (args := #[.agg #[.slice ac rc.length cc, .slice av l.length cv2], .agg #[.slice as_ sc.length cs, .slice am m.length cm]]) rfl (by kernel_rfl) (by kernel_rfl) ?_ AllReadyH.nil
        have hzW := hHeld.size
        refine refJoin_any lc hc lo hi l3 h3 l4 h4 rc sc _ _ _ _ l m _ _ wl4 (Sl.below (Sl.below Hrc.out Strs.loc HA6.out (by omega)) Strs.loc hHeld (by omega)) (by omega) (Sl.below (Sl.below Hl.out rowE_loc HA6.out (by omega)) rowE_loc hHeld (by omega)) (by omega) (Sl.below (Sl.below Hsc.out Strs.loc HA6.out (by omega)) Strs.loc hHeld (by omega)) (by omega) (Sl.below (Sl.below Hm.out rowE_loc HA6.out (by omega)) rowE_loc hHeld (by omega)) (by omega) Hrs.out Hms.out (by omega) (by omega) _ (fun wq5 cv6 lv6 hB hT6 hR6 => ?_)
        refine ⟨_, rfl, hHeld.trans (hB.mono hHeld.size), ?_⟩
        rw [hoc1] at hT6
        rw [hol1] at hR6
        have hloW : wl4.heap.size ≤ wq5.heap.size := hB.size
        obtain ⟨p5, q5, rfl, -, -, -, -⟩ := hT6.form
        obtain ⟨p6, q6, rfl, -, -, -, -⟩ := hR6.form
        have hbW := Hbk.out.lt
        have Hbk2 := Lib.hid (Hbk.out.below hB Hbk.out.lt)
        clear Hbk hbl
        have Hbk := Lib.hid Hbk2.out
        have hbl := Hbk.out.lt
        clear Hbk2
        have hHeld2 := hHeld.trans (hB.mono hHeld.size)
        clear hHeld
        have hHeld := hHeld2
        clear hHeld2
        clear hB
        try simp only [Act.put, List.getElem_toArray, List.getElem_cons_succ, List.getElem_cons_zero, List.setIfInBounds_toArray, List.set_cons_zero, List.set_cons_succ]
        refine wpAnyH_take (i := 5) (v := .tuple #[.agg #[.slice p5 oc1.length q5, .slice p6 ol1.length q6], .int .i64 ((joinErr rc l sc m))]) rfl (by kernel_rfl) (by kernel_rfl) (by kernel_rfl) (fun _ _ _ h => h) (Or.inl ⟨by rfl, ?_⟩) hHeld ?_
        · intro w' hSw; go_simp
        try simp only [Act.put, List.getElem_toArray, List.getElem_cons_succ, List.getElem_cons_zero, List.setIfInBounds_toArray, List.set_cons_zero, List.set_cons_succ]
        refine wpAnyH_take (i := 6) (v := .agg #[.slice p5 oc1.length q5, .slice p6 ol1.length q6]) rfl (by kernel_rfl) (by kernel_rfl) (by kernel_rfl) (fun _ _ _ h => h) (Or.inl ⟨by rfl, ?_⟩) hHeld ?_
        · intro w' hSw; go_simp
        try simp only [Act.put, List.getElem_toArray, List.getElem_cons_succ, List.getElem_cons_zero, List.setIfInBounds_toArray, List.set_cons_zero, List.set_cons_succ]
        refine wpAnyH_take (i := 7) (v := .int .i64 ((joinErr rc l sc m))) rfl (by kernel_rfl) (by kernel_rfl) (by kernel_rfl) (fun _ _ _ h => h) (Or.inl ⟨by rfl, ?_⟩) hHeld ?_
        · intro w' hSw; go_simp
        try simp only [Act.put, List.getElem_toArray, List.getElem_cons_succ, List.getElem_cons_zero, List.setIfInBounds_toArray, List.set_cons_zero, List.set_cons_succ]
        refine wpAnyH_ready (rs := [9]) (by kernel_rfl) (by simp) ?_
        have hS1 := (hHeld.setCell (p := ⟨b10, 0, none⟩) h6b (.slice p5 oc1.length q5)).setCell (p := ⟨b10, 1, none⟩) h6b (.slice p6 ol1.length q6)
        refine allSkip (w' := (wq5.setCell ⟨b10, 0, none⟩ (.slice p5 oc1.length q5)).setCell ⟨b10, 1, none⟩ (.slice p6 ol1.length q6)) rfl (by kernel_rfl) (by obtain ⟨e0, e1⟩ := Hbk.out.cells.c2; simp only [Nat.zero_add] at e1; have f0 := Hbk.out.free 0; have f1 := Hbk.out.free 1; go_simp) hS1 ?_ AllReadyH.nil
        have hHeld := hS1
        try simp only [Act.put, List.getElem_toArray, List.getElem_cons_succ, List.getElem_cons_zero, List.setIfInBounds_toArray, List.set_cons_zero, List.set_cons_succ]
        refine wpAnyH_take (i := 10) (v := .int .i64 (joinErr rc l sc m)) rfl (by kernel_rfl) (by kernel_rfl) (by kernel_rfl) (fun _ _ _ h => h) (Or.inl ⟨by rfl, ?_⟩) hHeld ?_
        · intro w' hSw; go_simp
        try simp only [Act.put, List.getElem_toArray, List.getElem_cons_succ, List.getElem_cons_zero, List.setIfInBounds_toArray, List.set_cons_zero, List.set_cons_succ]
        refine wpAnyH_done (by kernel_rfl) ?_ _
        have hsz : ((wq5.setCell ⟨b10, 0, none⟩ (.slice p5 oc1.length q5)).setCell ⟨b10, 1, none⟩ (.slice p6 ol1.length q6)).heap.size = wq5.heap.size := by simp
        exact ⟨b10, w6, .slice p5 oc1.length q5, .slice p6 ol1.length q6, by omega, by omega, hS1, hS1.size, Nat.le_refl _, (Hbk.out.set 0 _).set 1 _, ⟨_, _, rfl⟩, ⟨_, _, rfl⟩, ⟨wl4.heap.size, wq5.heap.size, wl4.heap.size, wq5.heap.size, by omega, by omega, by omega, by omega, by omega, by omega, Sl.agree hT6 Strs.loc (agree2Set wq5 (b := b10) (by omega) _ _), Sl.agree hR6 rowE_loc (agree2Set wq5 (b := b10) (by omega) _ _)⟩, _, _, _, _, _, _, _, _, rfl⟩
      refine allVal (v := .pointer (some ⟨wq1.heap.size, 0, none⟩)) (w' := wq1.alloc (.cells #[.slice none 0 0, .slice none 0 0] 53)) rfl (by kernel_rfl) (by go_simp) (hHeld.alloc hHeld.size _) ?_ AllReadyH.nil
      try simp only [Act.put, List.getElem_toArray, List.getElem_cons_succ, List.getElem_cons_zero, List.setIfInBounds_toArray, List.set_cons_zero, List.set_cons_succ]
      have hHeld2 := hHeld.alloc hHeld.size (.cells #[.slice none 0 0, .slice none 0 0] 53)
      have hbk := Blk.new wq1 [.slice none 0 0, .slice none 0 0] 53 rfl
      obtain ⟨b10, eb10⟩ : ∃ b, b = wq1.heap.size := ⟨_, rfl⟩
      have h6b : w6.heap.size ≤ b10 := by rw [eb10]; exact hHeld.size
      have hWb : wq1.heap.size ≤ b10 := by omega
      have hal := alloc_below wq1 (.cells #[.slice none 0 0, .slice none 0 0] 53)
      generalize wq1.alloc (.cells #[.slice none 0 0, .slice none 0 0] 53) = wl6 at *
      rw [← eb10] at hbk ⊢
      have hbl := hbk.lt
      have Hbk := Lib.hid hbk
      clear hHeld hbk hal eb10
      have hHeld := hHeld2
      clear hHeld2
      refine wpAnyH_ready (rs := [3]) (by kernel_rfl) (by simp) ?_
      refine allCall (f := 32) (args := #[.agg #[.slice as_ sc.length cs, .slice am m.length cm]]) rfl (by kernel_rfl) (by kernel_rfl) ?_ AllReadyH.nil
      refine ref_any _ _ _ _ _ _ wl6 _ (fun wq7 hB => ?_)
      refine ⟨_, rfl, hHeld.trans (hB.mono hHeld.size), ?_⟩
      have Hbk2 := Lib.hid (Hbk.out.below hB Hbk.out.lt)
      clear Hbk hbl
      have Hbk := Lib.hid Hbk2.out
      have hbl := Hbk.out.lt
      clear Hbk2
      have hHeld2 := hHeld.trans (hB.mono hHeld.size)
      clear hHeld
      have hHeld := hHeld2
      clear hHeld2
      clear hB
      try simp only [Act.put, List.getElem_toArray, List.getElem_cons_succ, List.getElem_cons_zero, List.setIfInBounds_toArray, List.set_cons_zero, List.set_cons_succ]
      refine wpAnyH_ready (rs := [4]) (by kernel_rfl) (by simp) ?_
      refine allCall (f := 42) (args := #[.agg #[.slice ac rc.length cc, .slice av l.length cv2], .agg #[.slice as_ sc.length cs, .slice am m.length cm]]) rfl (by kernel_rfl) (by kernel_rfl) ?_ AllReadyH.nil
      have hzW := hHeld.size
      refine refJoin_any lc hc lo hi l3 h3 l4 h4 rc sc _ _ _ _ l m _ _ wq7 (Sl.below (Sl.below Hrc.out Strs.loc HA6.out (by omega)) Strs.loc hHeld (by omega)) (by omega) (Sl.below (Sl.below Hl.out rowE_loc HA6.out (by omega)) rowE_loc hHeld (by omega)) (by omega) (Sl.below (Sl.below Hsc.out Strs.loc HA6.out (by omega)) Strs.loc hHeld (by omega)) (by omega) (Sl.below (Sl.below Hm.out rowE_loc HA6.out (by omega)) rowE_loc hHeld (by omega)) (by omega) Hrs.out Hms.out (by omega) (by omega) _ (fun wq8 cv6 lv6 hB hT6 hR6 => ?_)
      refine ⟨_, rfl, hHeld.trans (hB.mono hHeld.size), ?_⟩
      rw [hoc1] at hT6
      rw [hol1] at hR6
      have hloW : wq7.heap.size ≤ wq8.heap.size := hB.size
      obtain ⟨p5, q5, rfl, -, -, -, -⟩ := hT6.form
      obtain ⟨p6, q6, rfl, -, -, -, -⟩ := hR6.form
      have hbW := Hbk.out.lt
      have Hbk2 := Lib.hid (Hbk.out.below hB Hbk.out.lt)
      clear Hbk hbl
      have Hbk := Lib.hid Hbk2.out
      have hbl := Hbk.out.lt
      clear Hbk2
      have hHeld2 := hHeld.trans (hB.mono hHeld.size)
      clear hHeld
      have hHeld := hHeld2
      clear hHeld2
      clear hB
      try simp only [Act.put, List.getElem_toArray, List.getElem_cons_succ, List.getElem_cons_zero, List.setIfInBounds_toArray, List.set_cons_zero, List.set_cons_succ]
      refine wpAnyH_take (i := 5) (v := .tuple #[.agg #[.slice p5 oc1.length q5, .slice p6 ol1.length q6], .int .i64 ((joinErr rc l sc m))]) rfl (by kernel_rfl) (by kernel_rfl) (by kernel_rfl) (fun _ _ _ h => h) (Or.inl ⟨by rfl, ?_⟩) hHeld ?_
      · intro w' hSw; go_simp
      try simp only [Act.put, List.getElem_toArray, List.getElem_cons_succ, List.getElem_cons_zero, List.setIfInBounds_toArray, List.set_cons_zero, List.set_cons_succ]
      refine wpAnyH_take (i := 6) (v := .agg #[.slice p5 oc1.length q5, .slice p6 ol1.length q6]) rfl (by kernel_rfl) (by kernel_rfl) (by kernel_rfl) (fun _ _ _ h => h) (Or.inl ⟨by rfl, ?_⟩) hHeld ?_
      · intro w' hSw; go_simp
      try simp only [Act.put, List.getElem_toArray, List.getElem_cons_succ, List.getElem_cons_zero, List.setIfInBounds_toArray, List.set_cons_zero, List.set_cons_succ]
      refine wpAnyH_take (i := 7) (v := .int .i64 ((joinErr rc l sc m))) rfl (by kernel_rfl) (by kernel_rfl) (by kernel_rfl) (fun _ _ _ h => h) (Or.inl ⟨by rfl, ?_⟩) hHeld ?_
      · intro w' hSw; go_simp
      try simp only [Act.put, List.getElem_toArray, List.getElem_cons_succ, List.getElem_cons_zero, List.setIfInBounds_toArray, List.set_cons_zero, List.set_cons_succ]
      refine wpAnyH_ready (rs := [9]) (by kernel_rfl) (by simp) ?_
      have hS1 := (hHeld.setCell (p := ⟨b10, 0, none⟩) h6b (.slice p5 oc1.length q5)).setCell (p := ⟨b10, 1, none⟩) h6b (.slice p6 ol1.length q6)
      refine allSkip (w' := (wq8.setCell ⟨b10, 0, none⟩ (.slice p5 oc1.length q5)).setCell ⟨b10, 1, none⟩ (.slice p6 ol1.length q6)) rfl (by kernel_rfl) (by obtain ⟨e0, e1⟩ := Hbk.out.cells.c2; simp only [Nat.zero_add] at e1; have f0 := Hbk.out.free 0; have f1 := Hbk.out.free 1; go_simp) hS1 ?_ AllReadyH.nil
      have hHeld := hS1
      try simp only [Act.put, List.getElem_toArray, List.getElem_cons_succ, List.getElem_cons_zero, List.setIfInBounds_toArray, List.set_cons_zero, List.set_cons_succ]
      refine wpAnyH_take (i := 10) (v := .int .i64 (joinErr rc l sc m)) rfl (by kernel_rfl) (by kernel_rfl) (by kernel_rfl) (fun _ _ _ h => h) (Or.inl ⟨by rfl, ?_⟩) hHeld ?_
      · intro w' hSw; go_simp
      try simp only [Act.put, List.getElem_toArray, List.getElem_cons_succ, List.getElem_cons_zero, List.setIfInBounds_toArray, List.set_cons_zero, List.set_cons_succ]
      refine wpAnyH_done (by kernel_rfl) ?_ _
      have hsz : ((wq8.setCell ⟨b10, 0, none⟩ (.slice p5 oc1.length q5)).setCell ⟨b10, 1, none⟩ (.slice p6 ol1.length q6)).heap.size = wq8.heap.size := by simp
      exact ⟨b10, w6, .slice p5 oc1.length q5, .slice p6 ol1.length q6, by omega, by omega, hS1, hS1.size, Nat.le_refl _, (Hbk.out.set 0 _).set 1 _, ⟨_, _, rfl⟩, ⟨_, _, rfl⟩, ⟨wq7.heap.size, wq8.heap.size, wq7.heap.size, wq8.heap.size, by omega, by omega, by omega, by omega, by omega, by omega, Sl.agree hT6 Strs.loc (agree2Set wq8 (b := b10) (by omega) _ _), Sl.agree hR6 rowE_loc (agree2Set wq8 (b := b10) (by omega) _ _)⟩, _, _, _, _, _, _, _, _, rfl⟩
    refine allVal (v := .pointer (some ⟨wd.heap.size, 0, none⟩)) (w' := wd.alloc (.cells #[.slice none 0 0, .slice none 0 0] 53)) rfl (by kernel_rfl) (by go_simp) (hHeld.alloc hHeld.size _) ?_ AllReadyH.nil
    try simp only [Act.put, List.getElem_toArray, List.getElem_cons_succ, List.getElem_cons_zero, List.setIfInBounds_toArray, List.set_cons_zero, List.set_cons_succ]
    have hHeld2 := hHeld.alloc hHeld.size (.cells #[.slice none 0 0, .slice none 0 0] 53)
    have hbk := Blk.new wd [.slice none 0 0, .slice none 0 0] 53 rfl
    obtain ⟨b10, eb10⟩ : ∃ b, b = wd.heap.size := ⟨_, rfl⟩
    have h6b : w6.heap.size ≤ b10 := by rw [eb10]; exact hHeld.size
    have hWb : wd.heap.size ≤ b10 := by omega
    have hal := alloc_below wd (.cells #[.slice none 0 0, .slice none 0 0] 53)
    generalize wd.alloc (.cells #[.slice none 0 0, .slice none 0 0] 53) = wl9 at *
    rw [← eb10] at hbk ⊢
    have hbl := hbk.lt
    have Hbk := Lib.hid hbk
    clear hHeld hbk hal eb10
    have hHeld := hHeld2
    clear hHeld2
    refine wpAnyH_ready (rs := [1]) (by kernel_rfl) (by simp) ?_
    refine allCall (f := 32) (args := #[.agg #[.slice ac rc.length cc, .slice av l.length cv2]]) rfl (by kernel_rfl) (by kernel_rfl) ?_ AllReadyH.nil
    refine ref_any _ _ _ _ _ _ wl9 _ (fun wq10 hB => ?_)
    refine ⟨_, rfl, hHeld.trans (hB.mono hHeld.size), ?_⟩
    have Hbk2 := Lib.hid (Hbk.out.below hB Hbk.out.lt)
    clear Hbk hbl
    have Hbk := Lib.hid Hbk2.out
    have hbl := Hbk.out.lt
    clear Hbk2
    have hHeld2 := hHeld.trans (hB.mono hHeld.size)
    clear hHeld
    have hHeld := hHeld2
    clear hHeld2
    clear hB
    try simp only [Act.put, List.getElem_toArray, List.getElem_cons_succ, List.getElem_cons_zero, List.setIfInBounds_toArray, List.set_cons_zero, List.set_cons_succ]
    refine wpAnyH_ready (rs := [3]) (by kernel_rfl) (by simp) ?_
    refine allCall (f := 32) (args := #[.agg #[.slice as_ sc.length cs, .slice am m.length cm]]) rfl (by kernel_rfl) (by kernel_rfl) ?_ AllReadyH.nil
    refine ref_any _ _ _ _ _ _ wq10 _ (fun wq11 hB => ?_)
    refine ⟨_, rfl, hHeld.trans (hB.mono hHeld.size), ?_⟩
    have Hbk2 := Lib.hid (Hbk.out.below hB Hbk.out.lt)
    clear Hbk hbl
    have Hbk := Lib.hid Hbk2.out
    have hbl := Hbk.out.lt
    clear Hbk2
    have hHeld2 := hHeld.trans (hB.mono hHeld.size)
    clear hHeld
    have hHeld := hHeld2
    clear hHeld2
    clear hB
    try simp only [Act.put, List.getElem_toArray, List.getElem_cons_succ, List.getElem_cons_zero, List.setIfInBounds_toArray, List.set_cons_zero, List.set_cons_succ]
    refine wpAnyH_ready (rs := [4]) (by kernel_rfl) (by simp) ?_
    refine allCall (f := 42) (args := #[.agg #[.slice ac rc.length cc, .slice av l.length cv2], .agg #[.slice as_ sc.length cs, .slice am m.length cm]]) rfl (by kernel_rfl) (by kernel_rfl) ?_ AllReadyH.nil
    have hzW := hHeld.size
    refine refJoin_any lc hc lo hi l3 h3 l4 h4 rc sc _ _ _ _ l m _ _ wq11 (Sl.below (Sl.below Hrc.out Strs.loc HA6.out (by omega)) Strs.loc hHeld (by omega)) (by omega) (Sl.below (Sl.below Hl.out rowE_loc HA6.out (by omega)) rowE_loc hHeld (by omega)) (by omega) (Sl.below (Sl.below Hsc.out Strs.loc HA6.out (by omega)) Strs.loc hHeld (by omega)) (by omega) (Sl.below (Sl.below Hm.out rowE_loc HA6.out (by omega)) rowE_loc hHeld (by omega)) (by omega) Hrs.out Hms.out (by omega) (by omega) _ (fun wq12 cv6 lv6 hB hT6 hR6 => ?_)
    refine ⟨_, rfl, hHeld.trans (hB.mono hHeld.size), ?_⟩
    rw [hoc1] at hT6
    rw [hol1] at hR6
    have hloW : wq11.heap.size ≤ wq12.heap.size := hB.size
    obtain ⟨p5, q5, rfl, -, -, -, -⟩ := hT6.form
    obtain ⟨p6, q6, rfl, -, -, -, -⟩ := hR6.form
    have hbW := Hbk.out.lt
    have Hbk2 := Lib.hid (Hbk.out.below hB Hbk.out.lt)
    clear Hbk hbl
    have Hbk := Lib.hid Hbk2.out
    have hbl := Hbk.out.lt
    clear Hbk2
    have hHeld2 := hHeld.trans (hB.mono hHeld.size)
    clear hHeld
    have hHeld := hHeld2
    clear hHeld2
    clear hB
    try simp only [Act.put, List.getElem_toArray, List.getElem_cons_succ, List.getElem_cons_zero, List.setIfInBounds_toArray, List.set_cons_zero, List.set_cons_succ]
    refine wpAnyH_take (i := 5) (v := .tuple #[.agg #[.slice p5 oc1.length q5, .slice p6 ol1.length q6], .int .i64 ((joinErr rc l sc m))]) rfl (by kernel_rfl) (by kernel_rfl) (by kernel_rfl) (fun _ _ _ h => h) (Or.inl ⟨by rfl, ?_⟩) hHeld ?_
    · intro w' hSw; go_simp
    try simp only [Act.put, List.getElem_toArray, List.getElem_cons_succ, List.getElem_cons_zero, List.setIfInBounds_toArray, List.set_cons_zero, List.set_cons_succ]
    refine wpAnyH_take (i := 6) (v := .agg #[.slice p5 oc1.length q5, .slice p6 ol1.length q6]) rfl (by kernel_rfl) (by kernel_rfl) (by kernel_rfl) (fun _ _ _ h => h) (Or.inl ⟨by rfl, ?_⟩) hHeld ?_
    · intro w' hSw; go_simp
    try simp only [Act.put, List.getElem_toArray, List.getElem_cons_succ, List.getElem_cons_zero, List.setIfInBounds_toArray, List.set_cons_zero, List.set_cons_succ]
    refine wpAnyH_take (i := 7) (v := .int .i64 ((joinErr rc l sc m))) rfl (by kernel_rfl) (by kernel_rfl) (by kernel_rfl) (fun _ _ _ h => h) (Or.inl ⟨by rfl, ?_⟩) hHeld ?_
    · intro w' hSw; go_simp
    try simp only [Act.put, List.getElem_toArray, List.getElem_cons_succ, List.getElem_cons_zero, List.setIfInBounds_toArray, List.set_cons_zero, List.set_cons_succ]
    refine wpAnyH_ready (rs := [9]) (by kernel_rfl) (by simp) ?_
    have hS1 := (hHeld.setCell (p := ⟨b10, 0, none⟩) h6b (.slice p5 oc1.length q5)).setCell (p := ⟨b10, 1, none⟩) h6b (.slice p6 ol1.length q6)
    refine allSkip (w' := (wq12.setCell ⟨b10, 0, none⟩ (.slice p5 oc1.length q5)).setCell ⟨b10, 1, none⟩ (.slice p6 ol1.length q6)) rfl (by kernel_rfl) (by obtain ⟨e0, e1⟩ := Hbk.out.cells.c2; simp only [Nat.zero_add] at e1; have f0 := Hbk.out.free 0; have f1 := Hbk.out.free 1; go_simp) hS1 ?_ AllReadyH.nil
    have hHeld := hS1
    try simp only [Act.put, List.getElem_toArray, List.getElem_cons_succ, List.getElem_cons_zero, List.setIfInBounds_toArray, List.set_cons_zero, List.set_cons_succ]
    refine wpAnyH_take (i := 10) (v := .int .i64 (joinErr rc l sc m)) rfl (by kernel_rfl) (by kernel_rfl) (by kernel_rfl) (fun _ _ _ h => h) (Or.inl ⟨by rfl, ?_⟩) hHeld ?_
    · intro w' hSw; go_simp
    try simp only [Act.put, List.getElem_toArray, List.getElem_cons_succ, List.getElem_cons_zero, List.setIfInBounds_toArray, List.set_cons_zero, List.set_cons_succ]
    refine wpAnyH_done (by kernel_rfl) ?_ _
    have hsz : ((wq12.setCell ⟨b10, 0, none⟩ (.slice p5 oc1.length q5)).setCell ⟨b10, 1, none⟩ (.slice p6 ol1.length q6)).heap.size = wq12.heap.size := by simp
    exact ⟨b10, w6, .slice p5 oc1.length q5, .slice p6 ol1.length q6, by omega, by omega, hS1, hS1.size, Nat.le_refl _, (Hbk.out.set 0 _).set 1 _, ⟨_, _, rfl⟩, ⟨_, _, rfl⟩, ⟨wq11.heap.size, wq12.heap.size, wq11.heap.size, wq12.heap.size, by omega, by omega, by omega, by omega, by omega, by omega, Sl.agree hT6 Strs.loc (agree2Set wq12 (b := b10) (by omega) _ _), Sl.agree hR6 rowE_loc (agree2Set wq12 (b := b10) (by omega) _ _)⟩, _, _, _, _, _, _, _, _, rfl⟩
  rintro a' w7 ⟨b10, wr, cv6, lv6, hv1, hv2, hv3, hv4, hv5, hv6, ⟨p5, q5, rfl⟩, ⟨p6, q6, rfl⟩, ⟨lo1, hi1, lo2, hi2, hw1, hw2, hw3, hw4, hw5, hw6, hT7, hR7⟩, u33, u34, u35, u36, u37, u38, u39, u40, rfl⟩
  try simp only [Act.put, List.getElem_toArray, List.getElem_cons_succ, List.getElem_cons_zero, List.setIfInBounds_toArray, List.set_cons_zero, List.set_cons_succ]
  have HA7 := Lib.hid (HA6.out.trans (hv3.mono (by omega)))
  have hz7 := hv3.size
  have Hb8_7 := Lib.hid (Hb8.out.below hv3 hl8)
  have Hb10_7 := Lib.hid hv6
  have HT7 := Lib.hid (Own.kept HT6.out hv3)
  have HR7 := Lib.hid (OwnR.kept HR6.out hv3)
  have h4b10 := hv1
  have hbne := hv2
  clear hv1 hv2 hv3 hv4 hv5 hv6 hw3 hw4 hw5 hw6
  obtain ⟨c0, c1⟩ := (Hb8_7.out).cells.c2
  simp only [Nat.zero_add] at c1
  obtain ⟨d0, d1⟩ := (Hb10_7.out).cells.c2
  simp only [Nat.zero_add] at d1
  go_wp2_with fail
  refine toldO_any w4.heap.size lo2 hi2 lo1 hi1 oc1 ol1 hs3 _ _ _ _ _ w7 (by omega) HT7.out hT7 HR7.out hR7 hw1 hw2 Hos1.out _ (fun w8 hB8 hO8 => ?_)
  have Hb8_8 := Lib.hid (hO8.blk Hb8_7.out (TB.not HT7.out HR7.out Hb8_7.out (by decide) (by decide)))
  have Hb10_8 := Lib.hid (hO8.blk Hb10_7.out (TB.not HT7.out HR7.out Hb10_7.out (by decide) (by decide)))
  have HA8 := Lib.hid (HA7.out.trans hB8)
  have hz8 := HA8.out.size
  clear hB8 hO8 c0 c1 d0 d1 HT7 HR7 hT7 hR7 HT6 HR6 Hb8_7 Hb10_7 Hb8 hw1 hw2 HA5 HA6 HA7 hoc1 hol1 Hos1 hz5 hz6 hz7 hl8
  obtain ⟨oc2, hoc2⟩ : ∃ oc, okL (orErr rc l sc m) rc = oc := ⟨_, rfl⟩
  obtain ⟨ol2, hol2⟩ : ∃ ol, okL (orErr rc l sc m) (relCanon (l ++ m.map fun x => pickL x (placesL rc sc))) = ol := ⟨_, rfl⟩
  have Hos2 : Hid (∀ x ∈ ol2, ∀ a ∈ x, a.s.length ≤ 9223372036854775807) := Lib.hid (fun x hx => by
    have h1 := relCanon_mem (okL_mem (by rw [hol2]; exact hx))
    rcases List.mem_append.1 h1 with h1 | h1
    · exact Hrs.out x h1
    · obtain ⟨y, hy, rfl⟩ := List.mem_map.1 h1
      exact pick_str (Hms.out y hy))
  obtain ⟨c0, c1⟩ := ((Hby.out.below HA8.out hy4)).cells.c2
  simp only [Nat.zero_add] at c1
  obtain ⟨d0, d1⟩ := ((Hbz.out.below HA8.out hbz)).cells.c2
  simp only [Nat.zero_add] at d1
  go_wp2_with fail
  refine Or_any wa.heap.size w1.heap.size wa.heap.size w1.heap.size w2.heap.size w3.heap.size w2.heap.size w3.heap.size rc sc _ _ _ _ l m _ _ w8 (Sl.below Hyc.out Strs.loc HA8.out (by omega)) (by omega) (Sl.below Hyl.out rowE_loc HA8.out (by omega)) (by omega) (Sl.below Hzc.out Strs.loc HA8.out (by omega)) (by omega) (Sl.below Hzl.out rowE_loc HA8.out (by omega)) (by omega) (by omega) _ (fun w9 cv3 lv3 hs3 hB3 hT3 hR3 => ?_)
  rw [hoc2] at hT3
  rw [hol2] at hR3
  obtain ⟨p3, q3, rfl⟩ := Own.slice hT3
  obtain ⟨p4, q4, e4⟩ := Own.slice hR3.own
  rw [hR3.len] at e4
  subst e4
  have HA9 := Lib.hid (HA8.out.trans (hB3.mono (by omega)))
  have hz9 := HA9.out.size
  have hb8 := Hb8_8.out.below hB3 Hb8_8.out.lt
  have hb10 := Hb10_8.out.below hB3 Hb10_8.out.lt
  have f0 := hb8.free 0
  have f1 := hb8.free 1
  have hzn : w8.heap.size ≤ w9.heap.size := hB3.size
  have hlb8 := Hb8_8.out.lt
  have hlb10 := Hb10_8.out.lt
  clear c0 c1 d0 d1 hB3
  obtain ⟨c0, c1⟩ := (hb8).cells.c2
  simp only [Nat.zero_add] at c1
  go_upto_region 10 with fail
  have hown := own2Set hT3 hR3 hb8 (by decide) (by decide) (by decide) (.slice p3 oc2.length q3) (.slice p4 ol2.length q4)
  have hb10' := blk2Set hb10 (show b10 ≠ b8 by omega) (.slice p3 oc2.length q3) (.slice p4 ol2.length q4)
  have hA' := HA9.out.trans (below2Set w9 h4b8 (.slice p3 oc2.length q3) (.slice p4 ol2.length q4))
  have hzz := size2Set w9 b8 (.slice p3 oc2.length q3) (.slice p4 ol2.length q4)
  clear c0 c1 f0 f1 hT3 hR3 hb8 hb10 Hb8_8 Hb10_8
  generalize (w9.setCell ⟨b8, 0, none⟩ (.slice p3 oc2.length q3)).setCell ⟨b8, 1, none⟩ (.slice p4 ol2.length q4) = w10 at *
  obtain ⟨hT2, hR2, hb82⟩ := hown
  have HT2 := Lib.hid hT2
  have HR2 := Lib.hid hR2
  have Hb8_10 := Lib.hid hb82
  have Hb10_10 := Lib.hid hb10'
  have HA10 := Lib.hid hA'
  have hz10 := hA'.size
  have hlb10' := hb10'.lt
  clear hT2 hR2 hb82 hb10' hA'
  have hr4' : w.heap.size < w4.heap.size := by omega
  have hS0 : Below w4.heap.size w10 w10.drew := (Below.refl _ _).drew
  have hBB0 : Below w10.heap.size w10 w10.drew := (Below.refl _ _).drew
  refine wp_region_held_drew (S := fun w' => Below w4.heap.size w10 w') (by kernel_rfl) hS0 (fun hHeld => ?_)
  clear hS0
  generalize w10.drew = wd at *
  refine wpAnyH_take (i := 0) (v := .agg #[.slice ac rc.length cc, .slice av l.length cv2]) rfl (by kernel_rfl) (by kernel_rfl) (by kernel_rfl) (fun _ _ _ h => h) (Or.inl ⟨by rfl, ?_⟩) hHeld ?_
  · intro w' hSw; obtain ⟨z0, z1⟩ := ((Hbr.out.below HA10.out hr4').below hSw (by omega)).cells.c2; simp only [Nat.zero_add] at z1; go_simp
  try simp only [Act.put, List.getElem_toArray, List.getElem_cons_succ, List.getElem_cons_zero, List.setIfInBounds_toArray, List.set_cons_zero, List.set_cons_succ]
  refine wpAnyH_take (i := 2) (v := .agg #[.slice as_ sc.length cs, .slice am m.length cm]) rfl (by kernel_rfl) (by kernel_rfl) (by kernel_rfl) (fun _ _ _ h => h) (Or.inl ⟨by rfl, ?_⟩) hHeld ?_
  · intro w' hSw; obtain ⟨z0, z1⟩ := ((Hbs.out.below HA10.out hr4).below hSw (by omega)).cells.c2; simp only [Nat.zero_add] at z1; go_simp
  try simp only [Act.put, List.getElem_toArray, List.getElem_cons_succ, List.getElem_cons_zero, List.setIfInBounds_toArray, List.set_cons_zero, List.set_cons_succ]
  refine wpAnyH_ready (rs := [1]) (by kernel_rfl) (by simp) ?_
  refine allCall (f := 32) (args := #[.agg #[.slice ac rc.length cc, .slice av l.length cv2]]) rfl (by kernel_rfl) (by kernel_rfl) ?_ AllReadyH.nil
  refine ref_any _ _ _ _ _ _ wd _ (fun wr1 hB => ?_)
  refine ⟨_, rfl, hHeld.trans (hB.mono (by have := hBB0.size; omega)), ?_⟩
  have hHeld2 := hHeld.trans (hB.mono (by have := hBB0.size; omega))
  have hBB2 := hBB0.trans (hB.mono hBB0.size)
  clear hHeld hBB0 hB
  have hHeld := hHeld2
  have hBB0 := hBB2
  clear hHeld2 hBB2
  try simp only [Act.put, List.getElem_toArray, List.getElem_cons_succ, List.getElem_cons_zero, List.setIfInBounds_toArray, List.set_cons_zero, List.set_cons_succ]
  refine wpAnyH_ready (rs := [3]) (by kernel_rfl) (by simp) ?_
  refine allCall (f := 32) (args := #[.agg #[.slice as_ sc.length cs, .slice am m.length cm]]) rfl (by kernel_rfl) (by kernel_rfl) ?_ AllReadyH.nil
  refine ref_any _ _ _ _ _ _ wr1 _ (fun wr2 hB => ?_)
  refine ⟨_, rfl, hHeld.trans (hB.mono (by have := hBB0.size; omega)), ?_⟩
  have hHeld2 := hHeld.trans (hB.mono (by have := hBB0.size; omega))
  have hBB2 := hBB0.trans (hB.mono hBB0.size)
  clear hHeld hBB0 hB
  have hHeld := hHeld2
  have hBB0 := hBB2
  clear hHeld2 hBB2
  try simp only [Act.put, List.getElem_toArray, List.getElem_cons_succ, List.getElem_cons_zero, List.setIfInBounds_toArray, List.set_cons_zero, List.set_cons_succ]
  have hzW : w10.heap.size ≤ wr2.heap.size := hBB0.size
  have HAW := Lib.hid (HA10.out.trans hHeld)
  refine wpAnyH_ready (rs := [4]) (by kernel_rfl) (by simp) ?_
  refine allCall (f := 44) (args := #[.agg #[.slice ac rc.length cc, .slice av l.length cv2], .agg #[.slice as_ sc.length cs, .slice am m.length cm]]) rfl (by kernel_rfl) (by kernel_rfl) ?_ AllReadyH.nil
  refine refOr_any lc hc lo hi l3 h3 l4 h4 rc sc _ _ _ _ l m _ _ wr2 (Sl.below Hrc.out Strs.loc HAW.out (by omega)) (by omega) (Sl.below Hl.out rowE_loc HAW.out (by omega)) (by omega) (Sl.below Hsc.out Strs.loc HAW.out (by omega)) (by omega) (Sl.below Hm.out rowE_loc HAW.out (by omega)) (by omega) Hrs.out Hms.out (by omega) (by omega) _ (fun wq cv6 lv6 hB hT6 hR6 => ?_)
  rw [hoc2] at hT6
  rw [hol2] at hR6
  obtain ⟨p5, q5, rfl, -, -, -, -⟩ := hT6.form
  obtain ⟨p6, q6, rfl, -, -, -, -⟩ := hR6.form
  refine ⟨_, rfl, hHeld.trans (hB.mono (by omega)), ?_⟩
  have hHeld2 := hHeld.trans (hB.mono (by omega))
  have hBB2 := hBB0.trans (hB.mono hBB0.size)
  have hzq : wr2.heap.size ≤ wq.heap.size := hB.size
  clear hHeld hBB0 hB
  have hHeld := hHeld2
  have hBB0 := hBB2
  clear hHeld2 hBB2
  try simp only [Act.put, List.getElem_toArray, List.getElem_cons_succ, List.getElem_cons_zero, List.setIfInBounds_toArray, List.set_cons_zero, List.set_cons_succ]
  refine wpAnyH_take (i := 5) (v := .tuple #[.agg #[.slice p5 oc2.length q5, .slice p6 ol2.length q6], .int .i64 ((orErr rc l sc m))]) rfl (by kernel_rfl) (by kernel_rfl) (by kernel_rfl) (fun _ _ _ h => h) (Or.inl ⟨by rfl, ?_⟩) hHeld ?_
  · intro w' hSw; go_simp
  try simp only [Act.put, List.getElem_toArray, List.getElem_cons_succ, List.getElem_cons_zero, List.setIfInBounds_toArray, List.set_cons_zero, List.set_cons_succ]
  refine wpAnyH_take (i := 6) (v := .agg #[.slice p5 oc2.length q5, .slice p6 ol2.length q6]) rfl (by kernel_rfl) (by kernel_rfl) (by kernel_rfl) (fun _ _ _ h => h) (Or.inl ⟨by rfl, ?_⟩) hHeld ?_
  · intro w' hSw; go_simp
  try simp only [Act.put, List.getElem_toArray, List.getElem_cons_succ, List.getElem_cons_zero, List.setIfInBounds_toArray, List.set_cons_zero, List.set_cons_succ]
  refine wpAnyH_take (i := 7) (v := .int .i64 ((orErr rc l sc m))) rfl (by kernel_rfl) (by kernel_rfl) (by kernel_rfl) (fun _ _ _ h => h) (Or.inl ⟨by rfl, ?_⟩) hHeld ?_
  · intro w' hSw; go_simp
  try simp only [Act.put, List.getElem_toArray, List.getElem_cons_succ, List.getElem_cons_zero, List.setIfInBounds_toArray, List.set_cons_zero, List.set_cons_succ]
  refine wpAnyH_ready (rs := [8]) (by kernel_rfl) (by simp) ?_
  have hbq := Hb10_10.out.below hBB0 hlb10'
  have hb8q := Hb8_10.out.below hBB0 Hb8_10.out.lt
  have hTq := Own.kept HT2.out hBB0
  have hRq := OwnR.kept HR2.out hBB0
  have hS1 := hHeld.trans (below2Set wq h4b10 (.slice p5 oc2.length q5) (.slice p6 ol2.length q6))
  have hown := own2Set hTq hRq hbq (by decide) (by decide) (by decide) (.slice p5 oc2.length q5) (.slice p6 ol2.length q6)
  have hb8' := blk2Set hb8q (show b8 ≠ b10 by omega) (.slice p5 oc2.length q5) (.slice p6 ol2.length q6)
  have hTb := Sl.agree hT6 Strs.loc (agree2Set wq (b := b10) (by omega) (.slice p5 oc2.length q5) (.slice p6 ol2.length q6))
  have hRb := Sl.agree hR6 rowE_loc (agree2Set wq (b := b10) (by omega) (.slice p5 oc2.length q5) (.slice p6 ol2.length q6))
  have hzz2 := size2Set wq b10 (.slice p5 oc2.length q5) (.slice p6 ol2.length q6)
  refine allSkip (w' := (wq.setCell ⟨b10, 0, none⟩ (.slice p5 oc2.length q5)).setCell ⟨b10, 1, none⟩ (.slice p6 ol2.length q6)) rfl (by kernel_rfl) (by obtain ⟨e0, e1⟩ := hbq.cells.c2; simp only [Nat.zero_add] at e1; have f0 := hbq.free 0; have f1 := hbq.free 1; go_simp) hS1 ?_ AllReadyH.nil
  clear hHeld hbq hb8q hTq hRq hT6 hR6 hBB0
  have hHeld := hS1
  try simp only [Act.put, List.getElem_toArray, List.getElem_cons_succ, List.getElem_cons_zero, List.setIfInBounds_toArray, List.set_cons_zero, List.set_cons_succ]
  refine wpAnyH_take (i := 9) (v := .int .i64 (orErr rc l sc m)) rfl (by kernel_rfl) (by kernel_rfl) (by kernel_rfl) (fun _ _ _ h => h) (Or.inl ⟨by rfl, ?_⟩) hHeld ?_
  · intro w' hSw; go_simp
  try simp only [Act.put, List.getElem_toArray, List.getElem_cons_succ, List.getElem_cons_zero, List.setIfInBounds_toArray, List.set_cons_zero, List.set_cons_succ]
  refine wpAnyH_done (by kernel_rfl) ?_ _
  generalize (wq.setCell ⟨b10, 0, none⟩ (.slice p5 oc2.length q5)).setCell ⟨b10, 1, none⟩ (.slice p6 ol2.length q6) = w13 at *
  have HA13 := Lib.hid (HA10.out.trans hHeld)
  have hz13 := HA13.out.size
  obtain ⟨hT5, hR5, hb105⟩ := hown
  have HT5 := Lib.hid hT5
  have HR5 := Lib.hid hR5
  have HTb := Lib.hid hTb
  have HRb := Lib.hid hRb
  have Hb8_13 := Lib.hid hb8'
  have Hb10_13 := Lib.hid hb105
  clear hHeld hS1 hT5 hR5 hTb hRb hb8' hb105 HT2 HR2 Hb8_10 Hb10_10
  obtain ⟨c0, c1⟩ := (Hb8_13.out).cells.c2
  simp only [Nat.zero_add] at c1
  obtain ⟨d0, d1⟩ := (Hb10_13.out).cells.c2
  simp only [Nat.zero_add] at d1
  go_wp2_with fail
  refine toldO_any w4.heap.size wr2.heap.size wq.heap.size lc hc oc2 ol2 hs3 _ _ _ _ _ w13 (by omega) (Own.lower HT5.out (by omega)) HTb.out (OwnR.lower HR5.out (by omega)) HRb.out (by omega) (by omega) Hos2.out _ (fun w14 hB8 hO8 => ?_)
  have Hb8_14 := Lib.hid (hO8.blk Hb8_13.out (TB.not HT5.out HR5.out Hb8_13.out (by decide) (by decide)))
  have Hb10_14 := Lib.hid (hO8.blk Hb10_13.out (TB.not HT5.out HR5.out Hb10_13.out (by decide) (by decide)))
  have HA14 := Lib.hid (HA13.out.trans hB8)
  have hz14 := HA14.out.size
  clear hB8 hO8 c0 c1 d0 d1 HT5 HR5 HTb HRb Hb8_13 Hb10_13 HA9 HA10 HA13 hoc2 hol2 Hos2 HAW hzW hzq hzz hzz2 hzn hlb8 hlb10 hlb10' hr4'
  obtain ⟨oc3, hoc3⟩ : ∃ oc, okL (woErr rc l sc m) rc = oc := ⟨_, rfl⟩
  obtain ⟨ol3, hol3⟩ : ∃ ol, okL (woErr rc l sc m) (relCanon (withoutL rc l sc m)) = ol := ⟨_, rfl⟩
  have Hos3 : Hid (∀ x ∈ ol3, ∀ a ∈ x, a.s.length ≤ 9223372036854775807) := Lib.hid (fun x hx => by
    have h1 := relCanon_mem (okL_mem (by rw [hol3]; exact hx))
    exact Hrs.out x (List.mem_filter.1 h1).1)
  obtain ⟨c0, c1⟩ := ((Hby.out.below HA14.out hy4)).cells.c2
  simp only [Nat.zero_add] at c1
  obtain ⟨d0, d1⟩ := ((Hbz.out.below HA14.out hbz)).cells.c2
  simp only [Nat.zero_add] at d1
  go_wp2_with fail
  refine Without_any wa.heap.size w1.heap.size wa.heap.size w1.heap.size w2.heap.size w3.heap.size w2.heap.size w3.heap.size rc sc _ _ _ _ l m _ _ w14 (Sl.below Hyc.out Strs.loc HA14.out (by omega)) (by omega) (Sl.below Hyl.out rowE_loc HA14.out (by omega)) (by omega) (Sl.below Hzc.out Strs.loc HA14.out (by omega)) (by omega) (Sl.below Hzl.out rowE_loc HA14.out (by omega)) (by omega) _ (fun w15 cv3 lv3 hs3 hB3 hT3 hR3 => ?_)
  rw [hoc3] at hT3
  rw [hol3] at hR3
  obtain ⟨p3, q3, rfl⟩ := Own.slice hT3
  obtain ⟨p4, q4, e4⟩ := Own.slice hR3.own
  rw [hR3.len] at e4
  subst e4
  have HA15 := Lib.hid (HA14.out.trans (hB3.mono (by omega)))
  have hz15 := HA15.out.size
  have hb8 := Hb8_14.out.below hB3 Hb8_14.out.lt
  have hb10 := Hb10_14.out.below hB3 Hb10_14.out.lt
  have f0 := hb8.free 0
  have f1 := hb8.free 1
  have hzn : w14.heap.size ≤ w15.heap.size := hB3.size
  have hlb8 := Hb8_14.out.lt
  have hlb10 := Hb10_14.out.lt
  clear c0 c1 d0 d1 hB3
  obtain ⟨c0, c1⟩ := (hb8).cells.c2
  simp only [Nat.zero_add] at c1
  go_upto_region 14 with fail
  have hown := own2Set hT3 hR3 hb8 (by decide) (by decide) (by decide) (.slice p3 oc3.length q3) (.slice p4 ol3.length q4)
  have hb10' := blk2Set hb10 (show b10 ≠ b8 by omega) (.slice p3 oc3.length q3) (.slice p4 ol3.length q4)
  have hA' := HA15.out.trans (below2Set w15 h4b8 (.slice p3 oc3.length q3) (.slice p4 ol3.length q4))
  have hzz := size2Set w15 b8 (.slice p3 oc3.length q3) (.slice p4 ol3.length q4)
  clear c0 c1 f0 f1 hT3 hR3 hb8 hb10 Hb8_14 Hb10_14
  generalize (w15.setCell ⟨b8, 0, none⟩ (.slice p3 oc3.length q3)).setCell ⟨b8, 1, none⟩ (.slice p4 ol3.length q4) = w16 at *
  obtain ⟨hT2, hR2, hb82⟩ := hown
  have HT2 := Lib.hid hT2
  have HR2 := Lib.hid hR2
  have Hb8_16 := Lib.hid hb82
  have Hb10_16 := Lib.hid hb10'
  have HA16 := Lib.hid hA'
  have hz16 := hA'.size
  have hlb10' := hb10'.lt
  clear hT2 hR2 hb82 hb10' hA'
  have hr4' : w.heap.size < w4.heap.size := by omega
  have hS0 : Below w4.heap.size w16 w16.drew := (Below.refl _ _).drew
  have hBB0 : Below w16.heap.size w16 w16.drew := (Below.refl _ _).drew
  refine wp_region_held_drew (S := fun w' => Below w4.heap.size w16 w') (by kernel_rfl) hS0 (fun hHeld => ?_)
  clear hS0
  generalize w16.drew = wd at *
  refine wpAnyH_take (i := 0) (v := .agg #[.slice ac rc.length cc, .slice av l.length cv2]) rfl (by kernel_rfl) (by kernel_rfl) (by kernel_rfl) (fun _ _ _ h => h) (Or.inl ⟨by rfl, ?_⟩) hHeld ?_
  · intro w' hSw; obtain ⟨z0, z1⟩ := ((Hbr.out.below HA16.out hr4').below hSw (by omega)).cells.c2; simp only [Nat.zero_add] at z1; go_simp
  try simp only [Act.put, List.getElem_toArray, List.getElem_cons_succ, List.getElem_cons_zero, List.setIfInBounds_toArray, List.set_cons_zero, List.set_cons_succ]
  refine wpAnyH_take (i := 2) (v := .agg #[.slice as_ sc.length cs, .slice am m.length cm]) rfl (by kernel_rfl) (by kernel_rfl) (by kernel_rfl) (fun _ _ _ h => h) (Or.inl ⟨by rfl, ?_⟩) hHeld ?_
  · intro w' hSw; obtain ⟨z0, z1⟩ := ((Hbs.out.below HA16.out hr4).below hSw (by omega)).cells.c2; simp only [Nat.zero_add] at z1; go_simp
  try simp only [Act.put, List.getElem_toArray, List.getElem_cons_succ, List.getElem_cons_zero, List.setIfInBounds_toArray, List.set_cons_zero, List.set_cons_succ]
  refine wpAnyH_ready (rs := [1]) (by kernel_rfl) (by simp) ?_
  refine allCall (f := 32) (args := #[.agg #[.slice ac rc.length cc, .slice av l.length cv2]]) rfl (by kernel_rfl) (by kernel_rfl) ?_ AllReadyH.nil
  refine ref_any _ _ _ _ _ _ wd _ (fun wr1 hB => ?_)
  refine ⟨_, rfl, hHeld.trans (hB.mono (by have := hBB0.size; omega)), ?_⟩
  have hHeld2 := hHeld.trans (hB.mono (by have := hBB0.size; omega))
  have hBB2 := hBB0.trans (hB.mono hBB0.size)
  clear hHeld hBB0 hB
  have hHeld := hHeld2
  have hBB0 := hBB2
  clear hHeld2 hBB2
  try simp only [Act.put, List.getElem_toArray, List.getElem_cons_succ, List.getElem_cons_zero, List.setIfInBounds_toArray, List.set_cons_zero, List.set_cons_succ]
  refine wpAnyH_ready (rs := [3]) (by kernel_rfl) (by simp) ?_
  refine allCall (f := 32) (args := #[.agg #[.slice as_ sc.length cs, .slice am m.length cm]]) rfl (by kernel_rfl) (by kernel_rfl) ?_ AllReadyH.nil
  refine ref_any _ _ _ _ _ _ wr1 _ (fun wr2 hB => ?_)
  refine ⟨_, rfl, hHeld.trans (hB.mono (by have := hBB0.size; omega)), ?_⟩
  have hHeld2 := hHeld.trans (hB.mono (by have := hBB0.size; omega))
  have hBB2 := hBB0.trans (hB.mono hBB0.size)
  clear hHeld hBB0 hB
  have hHeld := hHeld2
  have hBB0 := hBB2
  clear hHeld2 hBB2
  try simp only [Act.put, List.getElem_toArray, List.getElem_cons_succ, List.getElem_cons_zero, List.setIfInBounds_toArray, List.set_cons_zero, List.set_cons_succ]
  have hzW : w16.heap.size ≤ wr2.heap.size := hBB0.size
  have HAW := Lib.hid (HA16.out.trans hHeld)
  refine wpAnyH_ready (rs := [4]) (by kernel_rfl) (by simp) ?_
  refine allCall (f := 46) (args := #[.agg #[.slice ac rc.length cc, .slice av l.length cv2], .agg #[.slice as_ sc.length cs, .slice am m.length cm]]) rfl (by kernel_rfl) (by kernel_rfl) ?_ AllReadyH.nil
  refine refWithout_any lc hc lo hi l3 h3 l4 h4 rc sc _ _ _ _ l m _ _ wr2 (Sl.below Hrc.out Strs.loc HAW.out (by omega)) (by omega) (Sl.below Hl.out rowE_loc HAW.out (by omega)) (by omega) (Sl.below Hsc.out Strs.loc HAW.out (by omega)) (by omega) (Sl.below Hm.out rowE_loc HAW.out (by omega)) (by omega) Hrs.out Hms.out (by omega) (by omega) _ (fun wq cv6 lv6 hB hT6 hR6 => ?_)
  rw [hoc3] at hT6
  rw [hol3] at hR6
  obtain ⟨p5, q5, rfl, -, -, -, -⟩ := hT6.form
  obtain ⟨p6, q6, rfl, -, -, -, -⟩ := hR6.form
  refine ⟨_, rfl, hHeld.trans (hB.mono (by omega)), ?_⟩
  have hHeld2 := hHeld.trans (hB.mono (by omega))
  have hBB2 := hBB0.trans (hB.mono hBB0.size)
  have hzq : wr2.heap.size ≤ wq.heap.size := hB.size
  clear hHeld hBB0 hB
  have hHeld := hHeld2
  have hBB0 := hBB2
  clear hHeld2 hBB2
  try simp only [Act.put, List.getElem_toArray, List.getElem_cons_succ, List.getElem_cons_zero, List.setIfInBounds_toArray, List.set_cons_zero, List.set_cons_succ]
  refine wpAnyH_take (i := 5) (v := .tuple #[.agg #[.slice p5 oc3.length q5, .slice p6 ol3.length q6], .int .i64 ((woErr rc l sc m))]) rfl (by kernel_rfl) (by kernel_rfl) (by kernel_rfl) (fun _ _ _ h => h) (Or.inl ⟨by rfl, ?_⟩) hHeld ?_
  · intro w' hSw; go_simp
  try simp only [Act.put, List.getElem_toArray, List.getElem_cons_succ, List.getElem_cons_zero, List.setIfInBounds_toArray, List.set_cons_zero, List.set_cons_succ]
  refine wpAnyH_take (i := 6) (v := .agg #[.slice p5 oc3.length q5, .slice p6 ol3.length q6]) rfl (by kernel_rfl) (by kernel_rfl) (by kernel_rfl) (fun _ _ _ h => h) (Or.inl ⟨by rfl, ?_⟩) hHeld ?_
  · intro w' hSw; go_simp
  try simp only [Act.put, List.getElem_toArray, List.getElem_cons_succ, List.getElem_cons_zero, List.setIfInBounds_toArray, List.set_cons_zero, List.set_cons_succ]
  refine wpAnyH_take (i := 7) (v := .int .i64 ((woErr rc l sc m))) rfl (by kernel_rfl) (by kernel_rfl) (by kernel_rfl) (fun _ _ _ h => h) (Or.inl ⟨by rfl, ?_⟩) hHeld ?_
  · intro w' hSw; go_simp
  try simp only [Act.put, List.getElem_toArray, List.getElem_cons_succ, List.getElem_cons_zero, List.setIfInBounds_toArray, List.set_cons_zero, List.set_cons_succ]
  refine wpAnyH_ready (rs := [8]) (by kernel_rfl) (by simp) ?_
  have hbq := Hb10_16.out.below hBB0 hlb10'
  have hb8q := Hb8_16.out.below hBB0 Hb8_16.out.lt
  have hTq := Own.kept HT2.out hBB0
  have hRq := OwnR.kept HR2.out hBB0
  have hS1 := hHeld.trans (below2Set wq h4b10 (.slice p5 oc3.length q5) (.slice p6 ol3.length q6))
  have hown := own2Set hTq hRq hbq (by decide) (by decide) (by decide) (.slice p5 oc3.length q5) (.slice p6 ol3.length q6)
  have hb8' := blk2Set hb8q (show b8 ≠ b10 by omega) (.slice p5 oc3.length q5) (.slice p6 ol3.length q6)
  have hTb := Sl.agree hT6 Strs.loc (agree2Set wq (b := b10) (by omega) (.slice p5 oc3.length q5) (.slice p6 ol3.length q6))
  have hRb := Sl.agree hR6 rowE_loc (agree2Set wq (b := b10) (by omega) (.slice p5 oc3.length q5) (.slice p6 ol3.length q6))
  have hzz2 := size2Set wq b10 (.slice p5 oc3.length q5) (.slice p6 ol3.length q6)
  refine allSkip (w' := (wq.setCell ⟨b10, 0, none⟩ (.slice p5 oc3.length q5)).setCell ⟨b10, 1, none⟩ (.slice p6 ol3.length q6)) rfl (by kernel_rfl) (by obtain ⟨e0, e1⟩ := hbq.cells.c2; simp only [Nat.zero_add] at e1; have f0 := hbq.free 0; have f1 := hbq.free 1; go_simp) hS1 ?_ AllReadyH.nil
  clear hHeld hbq hb8q hTq hRq hT6 hR6 hBB0
  have hHeld := hS1
  try simp only [Act.put, List.getElem_toArray, List.getElem_cons_succ, List.getElem_cons_zero, List.setIfInBounds_toArray, List.set_cons_zero, List.set_cons_succ]
  refine wpAnyH_take (i := 9) (v := .int .i64 (woErr rc l sc m)) rfl (by kernel_rfl) (by kernel_rfl) (by kernel_rfl) (fun _ _ _ h => h) (Or.inl ⟨by rfl, ?_⟩) hHeld ?_
  · intro w' hSw; go_simp
  try simp only [Act.put, List.getElem_toArray, List.getElem_cons_succ, List.getElem_cons_zero, List.setIfInBounds_toArray, List.set_cons_zero, List.set_cons_succ]
  refine wpAnyH_done (by kernel_rfl) ?_ _
  generalize (wq.setCell ⟨b10, 0, none⟩ (.slice p5 oc3.length q5)).setCell ⟨b10, 1, none⟩ (.slice p6 ol3.length q6) = w19 at *
  have HA19 := Lib.hid (HA16.out.trans hHeld)
  have hz19 := HA19.out.size
  obtain ⟨hT5, hR5, hb105⟩ := hown
  have HT5 := Lib.hid hT5
  have HR5 := Lib.hid hR5
  have HTb := Lib.hid hTb
  have HRb := Lib.hid hRb
  have Hb8_19 := Lib.hid hb8'
  have Hb10_19 := Lib.hid hb105
  clear hHeld hS1 hT5 hR5 hTb hRb hb8' hb105 HT2 HR2 Hb8_16 Hb10_16
  obtain ⟨c0, c1⟩ := (Hb8_19.out).cells.c2
  simp only [Nat.zero_add] at c1
  obtain ⟨d0, d1⟩ := (Hb10_19.out).cells.c2
  simp only [Nat.zero_add] at d1
  go_wp2_with fail
  refine toldO_any w4.heap.size wr2.heap.size wq.heap.size lc hc oc3 ol3 hs3 _ _ _ _ _ w19 (by omega) (Own.lower HT5.out (by omega)) HTb.out (OwnR.lower HR5.out (by omega)) HRb.out (by omega) (by omega) Hos3.out _ (fun w20 hB8 hO8 => ?_)
  have Hb8_20 := Lib.hid (hO8.blk Hb8_19.out (TB.not HT5.out HR5.out Hb8_19.out (by decide) (by decide)))
  have Hb10_20 := Lib.hid (hO8.blk Hb10_19.out (TB.not HT5.out HR5.out Hb10_19.out (by decide) (by decide)))
  have HA20 := Lib.hid (HA19.out.trans hB8)
  have hz20 := HA20.out.size
  clear hB8 hO8 c0 c1 d0 d1 HT5 HR5 HTb HRb Hb8_19 Hb10_19 HA15 HA16 HA19 hoc3 hol3 Hos3 HAW hzW hzq hzz hzz2 hzn hlb8 hlb10 hlb10' hr4'
  have Hby20 := Lib.hid (Hby.out.below HA20.out hy4)
  have Hbz20 := Lib.hid (Hbz.out.below HA20.out hbz)
  have Hbr20 := Lib.hid (Hbr.out.below HA20.out (by omega))
  have Hbs20 := Lib.hid (Hbs.out.below HA20.out hr4)
  obtain ⟨c0, c1⟩ := (Hby20.out).cells.c2
  simp only [Nat.zero_add] at c1
  obtain ⟨d0, d1⟩ := (Hbr20.out).cells.c2
  simp only [Nat.zero_add] at d1
  go_wp2_with fail
  refine lawSame_any wa.heap.size w1.heap.size lo hi wa.heap.size w1.heap.size lc hc rc l _ _ _ _ w20 (Sl.below Hyc.out Strs.loc HA20.out (by omega)) (Sl.below Hrc.out Strs.loc HA20.out (by omega)) (Sl.below Hyl.out rowE_loc HA20.out (by omega)) (Sl.below Hl.out rowE_loc HA20.out (by omega)) (by omega) (by omega) (by omega) (by omega) Hrs.out _ (fun w21 hB => ?_)
  have HA21 := Lib.hid (HA20.out.trans (hB.mono (by omega)))
  have hz21 := HA21.out.size
  clear hB c0 c1 d0 d1
  obtain ⟨c0, c1⟩ := (Hbz.out.below HA21.out hbz).cells.c2
  simp only [Nat.zero_add] at c1
  obtain ⟨d0, d1⟩ := (Hbs.out.below HA21.out hr4).cells.c2
  simp only [Nat.zero_add] at d1
  go_wp2_with fail
  refine lawSame_any w2.heap.size w3.heap.size l4 h4 w2.heap.size w3.heap.size l3 h3 sc m _ _ _ _ w21 (Sl.below Hzc.out Strs.loc HA21.out (by omega)) (Sl.below Hsc.out Strs.loc HA21.out (by omega)) (Sl.below Hzl.out rowE_loc HA21.out (by omega)) (Sl.below Hm.out rowE_loc HA21.out (by omega)) (by omega) (by omega) (by omega) (by omega) Hms.out _ (fun w22 hB => ?_)
  have HA22 := Lib.hid (HA21.out.trans (hB.mono (by omega)))
  have hr := HR.out w22 (HBw4.out.trans (HA22.out.mono (by omega)))
  go_wp2_with fail
  first | exact hr | exact fin hr rfl

end Go.Proofs.Ytpncblagjkbemaa
end

/- From the walk of a law to its statement: what all laws of this seat share: arguments opened to plain data, and handed back. -/
section
set_option linter.unusedVariables false
set_option linter.unusedSimpArgs false
namespace Go.Proofs.Ytpncblagjkbemaa
open Go.ChangeShapes Go.WideShapes Go.ChangeAt Go.RowKit

theorem own : ownKnob Try.prog.godebug = none := by kernel_rfl
theorem laidOut : laidOutB Try.prog = true := by kernel_rfl

section
variable {H : Type} {enc : TypeId × Value → H} {P : Program}
/-- All arguments read behind the call as they read before it. -/
theorem trodAll_below (hl : laidOutB P = true) {W W' : World} (hb : Below W.heap.size W W') : ∀ (ts : List TypeId) (vs : List Value) (ds : List (DataW H)) (ps : List MemPlace),
    (ts.all fun t => P.readableRec t && decide (t < P.types.size)) = true → DataW.TrodAll enc P W 0 (fun _ => true) true ts vs ds ps → DataW.TrodAll enc P W' 0 (fun b => decide (b < W.heap.size)) true ts vs ds ps
  | [], _, _, _, _, h => by obtain ⟨rfl, rfl, rfl⟩ := trodAll_nil h; exact trodAll_mk0
  | t :: ts, _, _, _, hr, h => by
    obtain ⟨v, vs, d, ds, p, q, rfl, rfl, rfl, h1, h2⟩ := trodAll_cons h
    have lt : ∀ x ∈ p, x.block < W.heap.size := by obtain ⟨m, hm⟩ := h1; exact DataW.trod_lt m _ _ _ hm
    simp only [List.all_cons, Bool.and_eq_true, decide_eq_true_eq] at hr
    exact trodAll_cons_mk (Below.trod hl hr.1.1 hr.1.2 h1 hb lt) (trodAll_below hl hb ts vs ds q (by simpa using hr.2) h2)

/-- A slice opened, its elements by 'hel'. -/
theorem open_sl {α : Type} [Inhabited α] {E : El α} {ok : α → Prop} {w : World} {t e : TypeId} {size : Nat} (ht : P.underlying t = some (.slice e)) (hC : P.cellsOf e = size) (hpos : 0 < size)
    (hel : ∀ n cs x, cs.length = size → DataW.trod enc P w 0 (fun _ => true) true n e cs = some x → ∃ a : α, E 0 w.heap.size w cs a ∧ ok a)
    {n : Nat} {v : Value} {x : DataW H × List MemPlace} (h : DataW.trod enc P w 0 (fun _ => true) true n t [v] = some x) : ∃ xs : List α, Sl E size 0 w.heap.size w v xs ∧ ∀ a ∈ xs, ok a := by
  rcases Deep.open_slice ht h with ⟨hcs, _⟩ | ⟨a, len, cap, m, n, D, Pl, hcs, _, hl, hm, hmm, _, hi⟩
  · simp only [List.cons.injEq, and_true] at hcs
    subst hcs
    exact ⟨[], Sl.nil _ _ _ _ _, fun _ h => by cases h⟩
  · simp only [List.cons.injEq, and_true] at hcs
    subst hcs
    simp only [if_true] at hmm
    subst hmm
    rw [hC] at hi
    have hi' : ∀ i, i < len → ∃ y : α × List Value, y.2.length = size ∧ (∀ j, j < size → w.cell? ((a.add (i * size)).add j) = y.2[j]?) ∧ E 0 w.heap.size w y.2 y.1 ∧ ok y.1 := by
      intro i hil
      obtain ⟨cs', hc, ht'⟩ := hi i (by omega)
      obtain ⟨_, hcl, hat⟩ := World.cells?_some hc
      obtain ⟨x, hx, hox⟩ := hel _ _ _ hcl ht'
      exact ⟨(x, cs'), hcl, hat, hx, hox⟩
    have : Inhabited (α × List Value) := ⟨(default, [])⟩
    obtain ⟨f, hf⟩ := Deep.choose_lt hi'
    have hlen : ((List.range len).map fun i => (f i).1).length = len := by simp
    refine ⟨(List.range len).map fun i => (f i).1, ⟨some a, m, by rw [hlen], by rw [hlen]; exact hl, hm, (fun h => by cases h), fun hne => ?_⟩, ?_⟩
    · have h0 : 0 < len := by
        cases len with
        | zero => simp at hne
        | succ k => omega
      obtain ⟨b, off, spot⟩ := a
      obtain ⟨l0, c0, _⟩ := hf 0 h0
      have hc0 := c0 0 hpos
      rw [List.getElem?_eq_getElem (by omega)] at hc0
      have hs : spot = none := by simpa [Addr.add] using World.cell?_spot hc0
      subst hs
      have hb := World.block_lt_of_cell? _ _ hc0
      refine ⟨b, off, rfl, Nat.zero_le _, by simpa [Addr.add] using hb, fun k hk => ?_⟩
      rw [hlen] at hk
      obtain ⟨l1, c1, e1, _⟩ := hf k hk
      refine ⟨(f k).2, l1, fun j v hj => ?_, by simpa using e1⟩
      have hj' : j < size := by have := (List.getElem?_eq_some_iff.1 hj).1; omega
      have := c1 j hj'
      rw [hj, Deep.add_add, Addr.add_lit, ← Nat.add_assoc] at this
      exact this
    · intro x hx
      obtain ⟨i, hi1, rfl⟩ := List.mem_map.1 hx
      exact (hf i (List.mem_range.1 hi1)).2.2.2
end
theorem bd_i64 {n : Int} (h : (Lit.int .i64 n).wf = true) : -9223372036854775808 ≤ n ∧ n ≤ 9223372036854775807 := by simpa [Lit.wf, IntKind.min, IntKind.max, IntKind.signed, IntKind.bits] using h
theorem bd_u8 {n : Int} (h : (Lit.int .u8 n).wf = true) : 0 ≤ n ∧ n ≤ 255 := by simpa [Lit.wf, IntKind.min, IntKind.max, IntKind.signed, IntKind.bits] using h
end Go.Proofs.Ytpncblagjkbemaa
end

/- Columns and rows of an argument, opened. -/
section
set_option linter.unusedVariables false
set_option linter.unusedSimpArgs false
namespace Go.Proofs.Ytpncblagjkbemaa
open Go.ChangeShapes Go.WideShapes Go.ChangeAt Go.RowKit
def colOk (s : S) : Prop := s.length ≤ 9223372036854775807
def valOk (v : V) : Prop := v.s.length ≤ 9223372036854775807
def rowOk (x : List V) : Prop := ∀ a ∈ x, valOk a
set_option maxRecDepth 100000 in
theorem el_col {H : Type} {enc : TypeId × Value → H} {w : World} (n : Nat) (cs : List Value) (x : DataW H × List MemPlace) (hl : cs.length = 1)
    (h : DataW.trod enc Try.prog w 0 (fun _ => true) true n 9 cs = some x) : ∃ a : S, flat strE 0 w.heap.size w cs a ∧ colOk a := by
  match cs, hl with
  | [c0], _ =>
    obtain ⟨s, e0, -, b0⟩ := DataW.trod_string Try.underlying9 h
    simp at e0
    have hlen : s.data.toList.length = s.size := by rw [Array.length_toList]; rfl
    subst e0
    exact ⟨s.data.toList, rfl, by unfold colOk; rw [hlen]; simp only [maxLen] at b0; omega⟩
set_option maxRecDepth 100000 in
theorem el_valR {H : Type} {enc : TypeId × Value → H} {w : World} (n : Nat) (cs : List Value) (x : DataW H × List MemPlace) (hl : cs.length = 3)
    (h : DataW.trod enc Try.prog w 0 (fun _ => true) true n 24 cs = some x) : ∃ a : V, flat V.enc 0 w.heap.size w cs a ∧ valOk a := by
  obtain ⟨xs, m, _, _, _, hxl, hf⟩ := DataW.trod_struct Try.underlying24 h
  have k1 : Try.prog.cellsOf 2 = 1 := by kernel_rfl
  have k2 : Try.prog.cellsOf 9 = 1 := by kernel_rfl
  have k3 : Try.prog.cellsOf 3 = 1 := by kernel_rfl
  match cs, hl with
  | [c0, c1, c2], _ =>
    match xs, hxl with
    | [y0, y1, y2], _ =>
      have g0 := hf 0 _ rfl
      have g1 := hf 1 _ rfl
      have g2 := hf 2 _ rfl
      simp [k1, k2, k3] at g0 g1 g2
      obtain ⟨i, e0, -, b0⟩ := DataW.trod_int Try.underlying3 g0
      obtain ⟨t, e1, -, b1⟩ := DataW.trod_int Try.underlying2 g1
      obtain ⟨s, e2, -, b2⟩ := DataW.trod_string Try.underlying9 g2
      simp at e0 e1 e2
      have hlen : s.data.toList.length = s.size := by rw [Array.length_toList]; rfl
      exact ⟨⟨i, t, s.data.toList⟩, by simp [flat, V.enc, *], by unfold valOk; rw [hlen]; simp only [maxLen] at b2; omega⟩
set_option maxRecDepth 100000 in
theorem el_row {H : Type} {enc : TypeId × Value → H} {w : World} (n : Nat) (cs : List Value) (x : DataW H × List MemPlace) (hl : cs.length = 1)
    (h : DataW.trod enc Try.prog w 0 (fun _ => true) true n 42 cs = some x) : ∃ a : List V, rowE 0 w.heap.size w cs a ∧ rowOk a := by
  match cs, hl with
  | [c0], _ =>
    obtain ⟨l, s3, b3⟩ := open_sl (α := V) (E := flat V.enc) (ok := valOk) Try.underlying42 (size := 3) (by kernel_rfl) (by decide) el_valR h
    exact ⟨l, ⟨c0, rfl, s3⟩, b3⟩
end Go.Proofs.Ytpncblagjkbemaa
end

/- A relation of an argument, opened. -/
section
set_option linter.unusedVariables false
set_option linter.unusedSimpArgs false
namespace Go.Proofs.Ytpncblagjkbemaa
open Go.ChangeShapes Go.WideShapes Go.ChangeAt Go.RowKit
/-- A relation in memory. -/
def RelIn (w : World) (v : Value) (p : List S × List (List V)) : Prop := ∃ ac cc lv, v = .agg #[.slice ac p.1.length cc, lv] ∧ Strs 0 w.heap.size w (.slice ac p.1.length cc) p.1 ∧ Rws 0 w.heap.size w lv p.2
def relOk (p : List S × List (List V)) : Prop := ∀ x ∈ p.2, rowOk x
set_option maxRecDepth 100000 in
theorem el_rel {H : Type} {enc : TypeId × Value → H} {w : World} (n : Nat) (cs : List Value) (x : DataW H × List MemPlace) (hl : cs.length = 2)
    (h : DataW.trod enc Try.prog w 0 (fun _ => true) true n 34 cs = some x) : ∃ p : List S × List (List V), RelIn w (.agg cs.toArray) p ∧ relOk p := by
  obtain ⟨xs, m, _, _, _, hxl, hf⟩ := DataW.trod_struct Try.underlying34 h
  have k1 : Try.prog.cellsOf 31 = 1 := by kernel_rfl
  have k2 : Try.prog.cellsOf 32 = 1 := by kernel_rfl
  match cs, hl with
  | [c0, c1], _ =>
    match xs, hxl with
    | [y0, y1], _ =>
      have g0 := hf 0 _ rfl
      have g1 := hf 1 _ rfl
      simp [k1, k2] at g0 g1
      obtain ⟨l0, s0, o0⟩ := open_sl (α := S) (E := flat strE) (ok := colOk) Try.underlying31 (size := 1) (by kernel_rfl) (by decide) el_col g0
      obtain ⟨l1, s1, o1⟩ := open_sl (α := List V) (E := rowE) (ok := rowOk) Try.underlying32 (size := 1) (by kernel_rfl) (by decide) el_row g1
      have s0' := s0
      obtain ⟨ac, cc, rfl, -, -, -, -⟩ := s0'.form
      exact ⟨(l0, l1), ⟨ac, cc, c1, rfl, s0, s1⟩, o1⟩
set_option maxRecDepth 100000 in
theorem open_rel {H : Type} {enc : TypeId × Value → H} {w : World} {base : Nat} {v : Value} {x : DataW H × List MemPlace} (hv : Value.okWide Try.prog w .any base 34 v)
    (h : ∃ n, DataW.trod enc Try.prog w 0 (fun _ => true) true n 34 v.cells.toList = some x) : ∃ p : List S × List (List V), RelIn w v p ∧ relOk p := by
  obtain ⟨cs, rfl, z⟩ := okWide_struct Try.underlying34 hv
  obtain ⟨n, h⟩ := h
  have k : Try.prog.cellsOf 34 = 2 := by kernel_rfl
  obtain ⟨p, hp, ho⟩ := el_rel n _ _ (by rw [← k, ← z]; simp [Value.cells]) h
  refine ⟨p, ?_, ho⟩
  simpa [Value.cells] using hp
end Go.Proofs.Ytpncblagjkbemaa
end
