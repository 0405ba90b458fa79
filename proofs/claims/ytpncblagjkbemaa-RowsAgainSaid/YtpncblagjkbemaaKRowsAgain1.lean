/- RowsAgain holds outright: for any two relations the call returns true, and the arguments read behind it as before. No condition. -/
import Derived.Test.YtpncblagjkbemaaKRB6
/- RowsAgain, walked. (Printed by outag.py.) -/
section
set_option linter.unusedVariables false
set_option linter.unusedSimpArgs false
namespace Go.Proofs.Ytpncblagjkbemaa
open Go.RowKit
set_option linter.unusedVariables false
set_option linter.unusedSimpArgs false
attribute [local go_sem ↓] Go.wp_at_zero Go.wp_at_succ

set_option maxRecDepth 100000 in
set_option maxHeartbeats 8000000 in
theorem RowsAgain_any {pa pb qa qb : Option Addr} {na nb ma mb : Nat} {rc sc : List S} {l m : List (List V)} (w : World) (h1 : RelH w pa na qa ma rc l) (h2 : RelH w pb nb qb mb sc m) (hrs : ∀ x ∈ l, ∀ a ∈ x, a.s.length ≤ 9223372036854775807) (hms : ∀ x ∈ m, ∀ a ∈ x, a.s.length ≤ 9223372036854775807) (R : Ending → World → Prop)
    (hR : ∀ w', Below w.heap.size w w' → R (.returned (.bool true)) w') : Calls Try.prog 9 #[.agg #[.slice pa rc.length na, .slice qa l.length ma], .agg #[.slice pb sc.length nb, .slice qb m.length mb]] w R := by
  have HR := Lib.hid hR
  have Hrs := Lib.hid hrs
  have Hms := Lib.hid hms
  obtain ⟨wb, ewb⟩ : ∃ x, x = w.alloc (.cells #[.slice pa rc.length na, .slice qa l.length ma] 34) := ⟨_, rfl⟩
  obtain ⟨wa, ewa⟩ : ∃ x, x = wb.alloc (.cells #[.slice pb sc.length nb, .slice qb m.length mb] 34) := ⟨_, rfl⟩
  have sb : w.heap.size + 1 = wb.heap.size := by rw [ewb]; simp
  have hB1 : Below w.heap.size w wb := by rw [ewb]; exact alloc_below _ _
  have hB2 : Below wb.heap.size wb wa := by rw [ewa]; exact alloc_below _ _
  have hb1 : RelAt wb w.heap.size pa na qa ma rc l := by rw [ewb]; exact RelH.box h1 rfl
  have hb2 : RelAt wa (w.heap.size + 1) pb nb qb mb sc m := by rw [ewa]; exact RelH.box (h2.below hB1) sb
  have hb1 := hb1.below hB2
  have hBa := hB1.trans (hB2.mono hB1.size)
  clear hR hrs hms sb
  go_enter Try.func9, Try.ntmps9
  go_upto_region 1 with fail
  rw [← ewb, ← ewa]
  clear ewa ewb hB1 hB2
  obtain ⟨b2, eb2⟩ : ∃ b, b = w.heap.size := ⟨_, rfl⟩
  obtain ⟨b3, eb3⟩ : ∃ b, b = w.heap.size + 1 := ⟨_, rfl⟩
  rw [← eb3, ← eb2]
  rw [← eb2] at hb1
  rw [← eb3] at hb2
  clear eb2 eb3 h1 h2
  have HB := Lib.hid (hBa)
  have Hr := Lib.hid (hb1)
  have Hs := Lib.hid (hb2)
  clear hBa hb1 hb2
  go_wp2_with fail
  refine alive_P wa _ (fun wc1 hB => ?_)
  replace HB := Lib.hid (HB.out.trans (hB.mono HB.out.size))
  replace Hr := Lib.hid (Hr.out.below hB)
  replace Hs := Lib.hid (Hs.out.below hB)
  clear hB
  obtain ⟨c0, c1⟩ := Hr.out.blk.cells.c2
  simp only [Nat.zero_add] at c1
  obtain ⟨d0, d1⟩ := Hs.out.blk.cells.c2
  simp only [Nat.zero_add] at d1
  go_wp2_with fail
  refine great_any 0 wc1.heap.size rc _ _ l _ wc1 Hr.out.rel.rws _ ?_
  cases hg : greatB rc l
  case true =>
    clear hg c0 c1 d0 d1
    have hr := HR.out wc1 HB.out
    go_wp2_with fail
    first | exact hr | exact fin hr rfl
  obtain ⟨hclr, hllr, -⟩ := great_no hg
  clear hg
  go_wp2_with fail
  refine great_any 0 wc1.heap.size sc _ _ m _ wc1 Hs.out.rel.rws _ ?_
  cases hg : greatB sc m
  case true =>
    clear hg c0 c1 d0 d1
    have hr := HR.out wc1 HB.out
    go_wp2_with fail
    first | exact hr | exact fin hr rfl
  obtain ⟨hcls, hlls, -⟩ := great_no hg
  clear hg
  have hprod : l.length * m.length < 100000 := Nat.lt_of_le_of_lt (Nat.mul_le_mul hllr hlls) (by decide)
  have hpr2 : l.length * l.length < 100000 := Nat.lt_of_le_of_lt (Nat.mul_le_mul hllr hllr) (by decide)
  have hpr3 : m.length * l.length < 100000 := Nat.lt_of_le_of_lt (Nat.mul_le_mul hlls hllr) (by decide)
  have hlens : l.length ≤ 150 ∧ m.length ≤ 150 ∧ rc.length ≤ 60 ∧ sc.length ≤ 60 := ⟨hllr, hlls, hclr, hcls⟩
  have Hpr := Lib.hid hprod
  have Hpr2 := Lib.hid hpr2
  have Hpr3 := Lib.hid hpr3
  have Hlens := Lib.hid hlens
  clear hprod hpr2 hpr3 hlens c0 c1 d0 d1 hllr hlls hclr hcls
  obtain ⟨c0, c1⟩ := Hr.out.blk.cells.c2
  simp only [Nat.zero_add] at c1
  go_wp2_with fail
  refine May_K Hr.out.rel rfl _ (fun wc2 hB => ?_)
  replace HB := Lib.hid (HB.out.trans (hB.mono HB.out.size))
  replace Hr := Lib.hid (Hr.out.below hB)
  replace Hs := Lib.hid (Hs.out.below hB)
  clear hB c0 c1
  cases hm : mayRel rc l
  case false =>
    clear hm
    have hr := HR.out wc2 HB.out
    go_wp2_with fail
    first | exact hr | exact fin hr rfl
  have Hmr := Lib.hid hm
  clear hm
  obtain ⟨c0, c1⟩ := Hs.out.blk.cells.c2
  simp only [Nat.zero_add] at c1
  go_wp2_with fail
  refine May_K Hs.out.rel rfl _ (fun wc3 hB => ?_)
  replace HB := Lib.hid (HB.out.trans (hB.mono HB.out.size))
  replace Hr := Lib.hid (Hr.out.below hB)
  replace Hs := Lib.hid (Hs.out.below hB)
  clear hB c0 c1
  cases hm : mayRel sc m
  case false =>
    clear hm
    have hr := HR.out wc3 HB.out
    go_wp2_with fail
    first | exact hr | exact fin hr rfl
  have Hms2 := Lib.hid hm
  clear hm
  obtain ⟨c0, c1⟩ := Hr.out.blk.cells.c2
  simp only [Nat.zero_add] at c1
  go_wp2_with fail
  refine Join_K Hr.out.rel Hr.out.rel Hpr2.out (e := 0) (co := rc) (lo := l) (join_self_err Hmr.out) (by rw [joinCols_self]; rfl) (by rw [join_self_rows Hmr.out]; rfl) _ (fun wc4 v hB hV => ?_)
  obtain ⟨p5, q6, p7, q8, rfl, hV⟩ := hV
  replace HB := Lib.hid (HB.out.trans (hB.mono HB.out.size))
  replace Hr := Lib.hid (Hr.out.below hB)
  replace Hs := Lib.hid (Hs.out.below hB)
  have Hrel9 := Lib.hid (show (Pd.rel _ _).says _ _ from ⟨_, _, _, _, rfl, hV⟩)
  clear hB hV
  clear c0 c1
  go_upto_region 7 with fail
  have hb := RelH.box (n := wc4.heap.size) (relH Hrel9.out) rfl
  have hB := alloc_below wc4 (.cells #[.slice p5 rc.length q6, .slice p7 l.length q8] 34)
  try simp only [List.length_cons, List.length_nil, Nat.zero_add, Nat.reduceAdd] at hb
  generalize wc4.alloc (.cells #[.slice p5 rc.length q6, .slice p7 l.length q8] 34) = w10 at *
  obtain ⟨b6, eb6⟩ : ∃ b, b = wc4.heap.size := ⟨_, rfl⟩
  rw [← eb6] at hb ⊢
  clear eb6
  replace HB := Lib.hid (HB.out.trans (hB.mono HB.out.size))
  replace Hr := Lib.hid (Hr.out.below hB)
  replace Hs := Lib.hid (Hs.out.below hB)
  replace Hrel9 := Lib.hid (Pd.step Hrel9.out hB)
  have Ha := Lib.hid (hb)
  clear hB hb
  clear Hrel9
  obtain ⟨c0, c1⟩ := Hr.out.blk.cells.c2
  simp only [Nat.zero_add] at c1
  go_wp2_with fail
  refine Or_K Hr.out.rel Hr.out.rel (by have := Hlens.out; omega) (e := 0) (co := rc) (lo := l) (or_self_err Hmr.out) rfl (by rw [or_self_rows Hmr.out]; rfl) _ (fun wc11 v hB hV => ?_)
  obtain ⟨p12, q13, p14, q15, rfl, hV⟩ := hV
  replace HB := Lib.hid (HB.out.trans (hB.mono HB.out.size))
  replace Hr := Lib.hid (Hr.out.below hB)
  replace Hs := Lib.hid (Hs.out.below hB)
  replace Ha := Lib.hid (Ha.out.below hB)
  have Hrel16 := Lib.hid (show (Pd.rel _ _).says _ _ from ⟨_, _, _, _, rfl, hV⟩)
  clear hB hV
  clear c0 c1
  go_upto_region 8 with fail
  have hb := RelH.box (n := wc11.heap.size) (relH Hrel16.out) rfl
  have hB := alloc_below wc11 (.cells #[.slice p12 rc.length q13, .slice p14 l.length q15] 34)
  try simp only [List.length_cons, List.length_nil, Nat.zero_add, Nat.reduceAdd] at hb
  generalize wc11.alloc (.cells #[.slice p12 rc.length q13, .slice p14 l.length q15] 34) = w17 at *
  obtain ⟨b8, eb8⟩ : ∃ b, b = wc11.heap.size := ⟨_, rfl⟩
  rw [← eb8] at hb ⊢
  clear eb8
  replace HB := Lib.hid (HB.out.trans (hB.mono HB.out.size))
  replace Hr := Lib.hid (Hr.out.below hB)
  replace Hs := Lib.hid (Hs.out.below hB)
  replace Ha := Lib.hid (Ha.out.below hB)
  replace Hrel16 := Lib.hid (Pd.step Hrel16.out hB)
  have Hb := Lib.hid (hb)
  clear hB hb
  clear Hrel16
  obtain ⟨c0, c1⟩ := Hr.out.blk.cells.c2
  simp only [Nat.zero_add] at c1
  go_wp2_with fail
  refine Without_K Hr.out.rel Hr.out.rel (e := 0) (co := rc) (lo := []) (wo_self_err Hmr.out) rfl (by rw [wo_self Hmr.out]; rfl) _ (fun wc18 v hB hV => ?_)
  obtain ⟨p19, q20, p21, q22, rfl, hV⟩ := hV
  replace HB := Lib.hid (HB.out.trans (hB.mono HB.out.size))
  replace Hr := Lib.hid (Hr.out.below hB)
  replace Hs := Lib.hid (Hs.out.below hB)
  replace Ha := Lib.hid (Ha.out.below hB)
  replace Hb := Lib.hid (Hb.out.below hB)
  have Hrel23 := Lib.hid (show (Pd.rel _ _).says _ _ from ⟨_, _, _, _, rfl, hV⟩)
  clear hB hV
  clear c0 c1
  go_upto_region 9 with fail
  have hb := RelH.box (n := wc18.heap.size) (relH Hrel23.out) rfl
  have hB := alloc_below wc18 (.cells #[.slice p19 rc.length q20, .slice p21 0 q22] 34)
  try simp only [List.length_cons, List.length_nil, Nat.zero_add, Nat.reduceAdd] at hb
  generalize wc18.alloc (.cells #[.slice p19 rc.length q20, .slice p21 0 q22] 34) = w24 at *
  obtain ⟨b10, eb10⟩ : ∃ b, b = wc18.heap.size := ⟨_, rfl⟩
  rw [← eb10] at hb ⊢
  clear eb10
  replace HB := Lib.hid (HB.out.trans (hB.mono HB.out.size))
  replace Hr := Lib.hid (Hr.out.below hB)
  replace Hs := Lib.hid (Hs.out.below hB)
  replace Ha := Lib.hid (Ha.out.below hB)
  replace Hb := Lib.hid (Hb.out.below hB)
  replace Hrel23 := Lib.hid (Pd.step Hrel23.out hB)
  have Hc := Lib.hid (hb)
  clear hB hb
  clear Hrel23
  obtain ⟨c0, c1⟩ := Ha.out.blk.cells.c2
  simp only [Nat.zero_add] at c1
  obtain ⟨d0, d1⟩ := Hr.out.blk.cells.c2
  simp only [Nat.zero_add] at d1
  go_wp2_with fail
  refine Same_K Ha.out.rel Hr.out.rel rfl rfl Hrs.out _ (fun wc25 hB => ?_)
  replace HB := Lib.hid (HB.out.trans (hB.mono HB.out.size))
  replace Hr := Lib.hid (Hr.out.below hB)
  replace Hs := Lib.hid (Hs.out.below hB)
  replace Ha := Lib.hid (Ha.out.below hB)
  replace Hb := Lib.hid (Hb.out.below hB)
  replace Hc := Lib.hid (Hc.out.below hB)
  clear hB c0 c1 d0 d1
  obtain ⟨c0, c1⟩ := Hb.out.blk.cells.c2
  simp only [Nat.zero_add] at c1
  obtain ⟨d0, d1⟩ := Hr.out.blk.cells.c2
  simp only [Nat.zero_add] at d1
  go_wp2_with fail
  refine Same_K Hb.out.rel Hr.out.rel rfl rfl Hrs.out _ (fun wc26 hB => ?_)
  replace HB := Lib.hid (HB.out.trans (hB.mono HB.out.size))
  replace Hr := Lib.hid (Hr.out.below hB)
  replace Hs := Lib.hid (Hs.out.below hB)
  replace Ha := Lib.hid (Ha.out.below hB)
  replace Hb := Lib.hid (Hb.out.below hB)
  replace Hc := Lib.hid (Hc.out.below hB)
  clear hB c0 c1 d0 d1
  obtain ⟨c0, c1⟩ := Hc.out.blk.cells.c2
  simp only [Nat.zero_add] at c1
  try simp only [List.length_nil] at c1
  go_upto_region 11 with fail
  clear c0 c1
  clear Ha Hb Hc
  by_cases hbig : 32 < (joinCols rc sc).length
  · have he1 : joinErr rc l sc m = 140 := by rw [joinErr_cols Hmr.out Hms2.out Hpr.out, if_pos hbig]
    have he2 : joinErr sc m rc l = 140 := by rw [← joinErr_turn Hmr.out Hms2.out Hpr.out]; exact he1
    have He1 := Lib.hid he1
    have He2 := Lib.hid he2
    clear he1 he2 hbig
    obtain ⟨c0, c1⟩ := Hr.out.blk.cells.c2
    simp only [Nat.zero_add] at c1
    obtain ⟨d0, d1⟩ := Hs.out.blk.cells.c2
    simp only [Nat.zero_add] at d1
    go_wp2_with fail
    refine Join_K Hr.out.rel Hs.out.rel Hpr.out (e := 140) (co := []) (lo := []) He1.out rfl rfl _ (fun wc27 v hB hV => ?_)
    obtain ⟨p28, q29, p30, q31, rfl, hV⟩ := hV
    replace HB := Lib.hid (HB.out.trans (hB.mono HB.out.size))
    replace Hr := Lib.hid (Hr.out.below hB)
    replace Hs := Lib.hid (Hs.out.below hB)
    have Hrel32 := Lib.hid (show (Pd.rel _ _).says _ _ from ⟨_, _, _, _, rfl, hV⟩)
    clear hB hV
    clear c0 c1
    clear d0 d1
    go_upto_region 12 with fail
    have hb := RelH.box (n := wc27.heap.size) (relH Hrel32.out) rfl
    have hB := alloc_below wc27 (.cells #[.slice p28 0 q29, .slice p30 0 q31] 34)
    try simp only [List.length_cons, List.length_nil, Nat.zero_add, Nat.reduceAdd] at hb
    generalize wc27.alloc (.cells #[.slice p28 0 q29, .slice p30 0 q31] 34) = w33 at *
    obtain ⟨b12, eb12⟩ : ∃ b, b = wc27.heap.size := ⟨_, rfl⟩
    rw [← eb12] at hb ⊢
    clear eb12
    replace HB := Lib.hid (HB.out.trans (hB.mono HB.out.size))
    replace Hr := Lib.hid (Hr.out.below hB)
    replace Hs := Lib.hid (Hs.out.below hB)
    replace Hrel32 := Lib.hid (Pd.step Hrel32.out hB)
    have Hx := Lib.hid (hb)
    clear hB hb
    clear Hrel32
    obtain ⟨c0, c1⟩ := Hs.out.blk.cells.c2
    simp only [Nat.zero_add] at c1
    obtain ⟨d0, d1⟩ := Hr.out.blk.cells.c2
    simp only [Nat.zero_add] at d1
    go_wp2_with fail
    refine Join_K Hs.out.rel Hr.out.rel Hpr3.out (e := 140) (co := []) (lo := []) He2.out rfl rfl _ (fun wc34 v hB hV => ?_)
    obtain ⟨p35, q36, p37, q38, rfl, hV⟩ := hV
    replace HB := Lib.hid (HB.out.trans (hB.mono HB.out.size))
    replace Hr := Lib.hid (Hr.out.below hB)
    replace Hs := Lib.hid (Hs.out.below hB)
    replace Hx := Lib.hid (Hx.out.below hB)
    have Hrel39 := Lib.hid (show (Pd.rel _ _).says _ _ from ⟨_, _, _, _, rfl, hV⟩)
    clear hB hV
    clear c0 c1
    clear d0 d1
    go_upto_region 13 with fail
    have hb := RelH.box (n := wc34.heap.size) (relH Hrel39.out) rfl
    have hB := alloc_below wc34 (.cells #[.slice p35 0 q36, .slice p37 0 q38] 34)
    try simp only [List.length_cons, List.length_nil, Nat.zero_add, Nat.reduceAdd] at hb
    generalize wc34.alloc (.cells #[.slice p35 0 q36, .slice p37 0 q38] 34) = w40 at *
    obtain ⟨b14, eb14⟩ : ∃ b, b = wc34.heap.size := ⟨_, rfl⟩
    rw [← eb14] at hb ⊢
    clear eb14
    replace HB := Lib.hid (HB.out.trans (hB.mono HB.out.size))
    replace Hr := Lib.hid (Hr.out.below hB)
    replace Hs := Lib.hid (Hs.out.below hB)
    replace Hx := Lib.hid (Hx.out.below hB)
    replace Hrel39 := Lib.hid (Pd.step Hrel39.out hB)
    have Hy := Lib.hid (hb)
    clear hB hb
    clear Hrel39
    have hr := HR.out w40 HB.out
    go_wp2_with fail
    first | exact hr | exact fin hr rfl
  · have he1 : joinErr rc l sc m = 0 := by rw [joinErr_cols Hmr.out Hms2.out Hpr.out, if_neg hbig]
    have he2 : joinErr sc m rc l = 0 := by rw [← joinErr_turn Hmr.out Hms2.out Hpr.out]; exact he1
    have ht := turn_rows Hmr.out Hms2.out
    have hte := turn_err Hmr.out Hms2.out he1 he2
    have hst : ∀ x ∈ relCanon (joinL rc l sc m), ∀ a ∈ x, a.s.length ≤ 9223372036854775807 := fun z hz a ha => by
      obtain ⟨x, hx, y, hy, -, rfl⟩ := joinL_mem.1 (canon_mem'.1 hz)
      rcases List.mem_append.1 ha with ha | ha
      · exact Hrs.out x hx a ha
      · rw [← pick_val] at ha
        exact pick_str (Hms.out y hy) a ha
    have hjl : (joinCols rc sc).length ≤ 32 := by omega
    have hyl : (relCanon (joinL sc m rc l)).length ≤ 100000 := (joinErr_zero Hms2.out Hmr.out he2).2
    obtain ⟨J1, ej1⟩ : ∃ x, joinCols rc sc = x := ⟨_, rfl⟩
    obtain ⟨J2, ej2⟩ : ∃ x, joinCols sc rc = x := ⟨_, rfl⟩
    obtain ⟨L1, el1⟩ : ∃ x, relCanon (joinL rc l sc m) = x := ⟨_, rfl⟩
    obtain ⟨L2, el2⟩ : ∃ x, relCanon (joinL sc m rc l) = x := ⟨_, rfl⟩
    rw [ej1, ej2, el2] at hte ht
    rw [el1] at ht hst
    rw [ej1] at hjl
    rw [el2] at hyl
    have He1 := Lib.hid he1
    have He2 := Lib.hid he2
    have Ht := Lib.hid ht
    have Hte := Lib.hid hte
    have Hst := Lib.hid hst
    have Hjl := Lib.hid hjl
    have Hyl := Lib.hid hyl
    have Ej1 := Lib.hid ej1
    have Ej2 := Lib.hid ej2
    have El1 := Lib.hid el1
    have El2 := Lib.hid el2
    clear he1 he2 hbig ht hte hst ej1 ej2 el1 el2 hjl hyl
    obtain ⟨c0, c1⟩ := Hr.out.blk.cells.c2
    simp only [Nat.zero_add] at c1
    obtain ⟨d0, d1⟩ := Hs.out.blk.cells.c2
    simp only [Nat.zero_add] at d1
    go_wp2_with fail
    refine Join_K Hr.out.rel Hs.out.rel Hpr.out (e := 0) (co := J1) (lo := L1) He1.out Ej1.out El1.out _ (fun wc27 v hB hV => ?_)
    obtain ⟨p28, q29, p30, q31, rfl, hV⟩ := hV
    replace HB := Lib.hid (HB.out.trans (hB.mono HB.out.size))
    replace Hr := Lib.hid (Hr.out.below hB)
    replace Hs := Lib.hid (Hs.out.below hB)
    have Hrel32 := Lib.hid (show (Pd.rel _ _).says _ _ from ⟨_, _, _, _, rfl, hV⟩)
    clear hB hV
    clear c0 c1
    clear d0 d1
    go_upto_region 12 with fail
    have hb := RelH.box (n := wc27.heap.size) (relH Hrel32.out) rfl
    have hB := alloc_below wc27 (.cells #[.slice p28 J1.length q29, .slice p30 L1.length q31] 34)
    try simp only [List.length_cons, List.length_nil, Nat.zero_add, Nat.reduceAdd] at hb
    generalize wc27.alloc (.cells #[.slice p28 J1.length q29, .slice p30 L1.length q31] 34) = w33 at *
    obtain ⟨b12, eb12⟩ : ∃ b, b = wc27.heap.size := ⟨_, rfl⟩
    rw [← eb12] at hb ⊢
    clear eb12
    replace HB := Lib.hid (HB.out.trans (hB.mono HB.out.size))
    replace Hr := Lib.hid (Hr.out.below hB)
    replace Hs := Lib.hid (Hs.out.below hB)
    replace Hrel32 := Lib.hid (Pd.step Hrel32.out hB)
    have Hx := Lib.hid (hb)
    clear hB hb
    clear Hrel32
    obtain ⟨c0, c1⟩ := Hs.out.blk.cells.c2
    simp only [Nat.zero_add] at c1
    obtain ⟨d0, d1⟩ := Hr.out.blk.cells.c2
    simp only [Nat.zero_add] at d1
    go_wp2_with fail
    refine Join_K Hs.out.rel Hr.out.rel Hpr3.out (e := 0) (co := J2) (lo := L2) He2.out Ej2.out El2.out _ (fun wc34 v hB hV => ?_)
    obtain ⟨p35, q36, p37, q38, rfl, hV⟩ := hV
    replace HB := Lib.hid (HB.out.trans (hB.mono HB.out.size))
    replace Hr := Lib.hid (Hr.out.below hB)
    replace Hs := Lib.hid (Hs.out.below hB)
    replace Hx := Lib.hid (Hx.out.below hB)
    have Hrel39 := Lib.hid (show (Pd.rel _ _).says _ _ from ⟨_, _, _, _, rfl, hV⟩)
    clear hB hV
    clear c0 c1
    clear d0 d1
    go_upto_region 13 with fail
    have hb := RelH.box (n := wc34.heap.size) (relH Hrel39.out) rfl
    have hB := alloc_below wc34 (.cells #[.slice p35 J2.length q36, .slice p37 L2.length q38] 34)
    try simp only [List.length_cons, List.length_nil, Nat.zero_add, Nat.reduceAdd] at hb
    generalize wc34.alloc (.cells #[.slice p35 J2.length q36, .slice p37 L2.length q38] 34) = w40 at *
    obtain ⟨b14, eb14⟩ : ∃ b, b = wc34.heap.size := ⟨_, rfl⟩
    rw [← eb14] at hb ⊢
    clear eb14
    replace HB := Lib.hid (HB.out.trans (hB.mono HB.out.size))
    replace Hr := Lib.hid (Hr.out.below hB)
    replace Hs := Lib.hid (Hs.out.below hB)
    replace Hx := Lib.hid (Hx.out.below hB)
    replace Hrel39 := Lib.hid (Pd.step Hrel39.out hB)
    have Hy := Lib.hid (hb)
    clear hB hb
    clear Hrel39
    obtain ⟨c0, c1⟩ := Hy.out.blk.cells.c2
    simp only [Nat.zero_add] at c1
    obtain ⟨d0, d1⟩ := Hx.out.blk.cells.c2
    simp only [Nat.zero_add] at d1
    go_wp2_with fail
    refine Project_K Hy.out.rel Hx.out.rel.strs (by have := Hjl.out; omega) (by have := Hyl.out; omega) (e := 0) (co := J1) (lo := L1) Hte.out rfl Ht.out _ (fun wc41 v hB hV => ?_)
    obtain ⟨p42, q43, p44, q45, rfl, hV⟩ := hV
    replace HB := Lib.hid (HB.out.trans (hB.mono HB.out.size))
    replace Hr := Lib.hid (Hr.out.below hB)
    replace Hs := Lib.hid (Hs.out.below hB)
    replace Hx := Lib.hid (Hx.out.below hB)
    replace Hy := Lib.hid (Hy.out.below hB)
    have Hrel46 := Lib.hid (show (Pd.rel _ _).says _ _ from ⟨_, _, _, _, rfl, hV⟩)
    clear hB hV
    clear c0 c1
    clear d0 d1
    go_upto_region 16 with fail
    have hb := RelH.box (n := wc41.heap.size) (relH Hrel46.out) rfl
    have hB := alloc_below wc41 (.cells #[.slice p42 J1.length q43, .slice p44 L1.length q45] 34)
    try simp only [List.length_cons, List.length_nil, Nat.zero_add, Nat.reduceAdd] at hb
    generalize wc41.alloc (.cells #[.slice p42 J1.length q43, .slice p44 L1.length q45] 34) = w47 at *
    obtain ⟨b16, eb16⟩ : ∃ b, b = wc41.heap.size := ⟨_, rfl⟩
    rw [← eb16] at hb ⊢
    clear eb16
    replace HB := Lib.hid (HB.out.trans (hB.mono HB.out.size))
    replace Hr := Lib.hid (Hr.out.below hB)
    replace Hs := Lib.hid (Hs.out.below hB)
    replace Hx := Lib.hid (Hx.out.below hB)
    replace Hy := Lib.hid (Hy.out.below hB)
    replace Hrel46 := Lib.hid (Pd.step Hrel46.out hB)
    have Hz := Lib.hid (hb)
    clear hB hb
    clear Hrel46
    obtain ⟨c0, c1⟩ := Hx.out.blk.cells.c2
    simp only [Nat.zero_add] at c1
    obtain ⟨d0, d1⟩ := Hz.out.blk.cells.c2
    simp only [Nat.zero_add] at d1
    go_wp2_with fail
    refine Same_K Hx.out.rel Hz.out.rel rfl rfl Hst.out _ (fun wc48 hB => ?_)
    replace HB := Lib.hid (HB.out.trans (hB.mono HB.out.size))
    replace Hr := Lib.hid (Hr.out.below hB)
    replace Hs := Lib.hid (Hs.out.below hB)
    replace Hx := Lib.hid (Hx.out.below hB)
    replace Hy := Lib.hid (Hy.out.below hB)
    replace Hz := Lib.hid (Hz.out.below hB)
    clear hB c0 c1 d0 d1
    have hr := HR.out wc48 HB.out
    go_wp2_with fail
    first | exact hr | exact fin hr rfl
end Go.Proofs.Ytpncblagjkbemaa
end

/- The walk of RowsAgain, of two relations as arguments lay them. -/
section
set_option linter.unusedVariables false
set_option linter.unusedSimpArgs false
namespace Go.Proofs.Ytpncblagjkbemaa
open Go.RowKit
theorem RowsAgain_rel (p q : List S × List (List V)) (v u : Value) (w : World) (hp : RelIn w v p) (ho : relOk p) (hq : RelIn w u q) (hoq : relOk q) (R : Ending → World → Prop)
    (hR : ∀ w', Below w.heap.size w w' → R (.returned (.bool true)) w') : Calls Try.prog 9 #[v, u] w R := by
  obtain ⟨ac, cc, lv, rfl, h1, h2⟩ := hp
  obtain ⟨ad, cd, mv, rfl, h3, h4⟩ := hq
  obtain ⟨p1, q1, rfl, -, -, -, -⟩ := h2.form
  obtain ⟨p2, q2, rfl, -, -, -, -⟩ := h4.form
  exact RowsAgain_any w ⟨h1, h2⟩ ⟨h3, h4⟩ (fun x hx a ha => ho x hx a ha) (fun x hx a ha => hoq x hx a ha) R hR
end Go.Proofs.Ytpncblagjkbemaa
end

/- RowsAgain holds outright: for any two relations the call returns true, and the arguments read behind it as before. No condition. -/
section
set_option linter.unusedVariables false
set_option linter.unusedSimpArgs false
namespace Go.Proofs.Ytpncblagjkbemaa.rowsAgain
open Go.ChangeShapes Go.WideShapes Go.ChangeAt Go.RowKit
open Go.ChangeMaps (open_string shut_string)
set_option linter.unusedVariables false

set_option maxRecDepth 100000 in
theorem contract (H : Type) (enc : TypeId × Value → H) (W : World) (base : Nat) (args : Array Value) (ds gs : List (DataW H)) (before : List MemPlace)
    (hval : ∀ (j : Nat) t v, Try.f9.params[j]? = some t → args[j]? = some v → Value.okWide Try.prog W .any base t v)
    (hW : DataW.Whole enc Try.prog Try.f9.params.toList Rows.rowsAgainSpec.vars false W args.toList ds gs before) :
    Calls Try.prog 9 args W fun e W' => ∃ v, e = .returned v ∧ Rows.rowsAgainSpec.post enc Try.prog Try.f9 false true false false W args v W' := by
  have hW' := hW
  obtain ⟨p, q, hA0, hV, rfl, hfz, hnd⟩ := hW
  have hA : DataW.TrodAll enc Try.prog W 0 (fun _ => true) true Try.f9.params.toList args.toList ds p := hA0
  rw [Try.params9] at hA hval
  have hAk := hA
  obtain ⟨v0, vs0, d0, ds0, p0, q0, hargs, rfl, rfl, h0, r0⟩ := trodAll_cons hA
  obtain ⟨v1, vs1, d1, ds1, p1, q1, rfl, rfl, rfl, h1, r1⟩ := trodAll_cons r0
  obtain ⟨rfl, rfl, rfl⟩ := trodAll_nil r1
  obtain rfl : args = #[v0, v1] := by cases args; simp_all
  obtain ⟨rfl, rfl⟩ := trodVars_none hV
  obtain ⟨x0, s0, o0⟩ := open_rel (hval 0 34 v0 rfl rfl) h0
  obtain ⟨x1, s1, o1⟩ := open_rel (hval 1 34 v1 rfl rfl) h1
  clear hA0
  refine RowsAgain_rel x0 x1 _ _ W s0 o0 s1 o1 _ fun W' bel => ?_
  exact ⟨_, rfl, _, _, _, [], _, [], hW', trodAll_mk1 (shut_bool Try.underlying4 _), trodAll_below laidOut bel _ _ _ _ (by kernel_rfl) hAk, rfl, bel.frame _, fun h => by cases h⟩

set_option maxRecDepth 100000 in
theorem lifted (os : Os) (started : os.Started) (H : Type) (enc : TypeId × Value → H) :
    ReturnsInHanded {} Try.checked os 9 .any (Rows.rowsAgainSpec.pre6 enc Try.prog Try.f9 Rows.rowsAgainRow.domain false) (Rows.rowsAgainSpec.post enc Try.prog Try.f9 false true false false) := by
  refine returnsInHanded_of_change (C := Try.checked) own started (by kernel_rfl) Try.func9
    (ChangeSpec.witness6 (enc := enc) (C := Try.checked) false ⟨#[], #[.agg #[.slice none 0 0, .slice none 0 0], .agg #[.slice none 0 0, .slice none 0 0]], []⟩ 8 (by kernel_rfl) (by kernel_rfl) (by kernel_rfl) (by kernel_rfl)) ?_
  intro W base args ds gs before hval hW _ _
  exact contract H enc W base args ds gs before hval hW

theorem over : Rows.rowsAgainRow.holds Try.pinned (OpenSpec.ofChange Rows.rowsAgainSpec) :=
  OpenClaim.holds_of_wide 9 Try.f9 rfl rfl rfl rfl rfl rfl rfl ⟨rfl, rfl, rfl, rfl, rfl⟩ rfl rfl rfl rfl rfl (by kernel_rfl) Try.func9 (by kernel_rfl)
    (of_decide_eq_true (by kernel_rfl)) (by unfold Func.isWrapper; first | (rw [if_pos (by decide +kernel)]; kernel_rfl) | (rw [if_neg (by decide +kernel)]; exact ⟨rfl, rfl⟩))
    (fun os started H enc _ => lifted os started H enc)

theorem proved : Rows.RowsAgainSaid := over
end Go.Proofs.Ytpncblagjkbemaa.rowsAgain
end
