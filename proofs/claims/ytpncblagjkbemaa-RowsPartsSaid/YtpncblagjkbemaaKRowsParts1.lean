/- RowsParts holds outright: for any two relations the call returns true, and the arguments read behind it as before. No condition. -/
import Derived.Test.YtpncblagjkbemaaKRB6
/- RowsParts, walked. (Printed by outpa.py.) -/
section
set_option linter.unusedVariables false
set_option linter.unusedSimpArgs false
namespace Go.Proofs.Ytpncblagjkbemaa
open Go.RowKit
set_option linter.unusedVariables false
set_option linter.unusedSimpArgs false
attribute [local go_sem ↓] Go.wp_at_zero Go.wp_at_succ

set_option maxRecDepth 100000 in
set_option maxHeartbeats 8000000 in
theorem RowsParts_any {pa pb qa qb : Option Addr} {na nb ma mb : Nat} {rc sc : List S} {l m : List (List V)} (w : World) (h1 : RelH w pa na qa ma rc l) (h2 : RelH w pb nb qb mb sc m) (hrs : ∀ x ∈ l, ∀ a ∈ x, a.s.length ≤ 9223372036854775807) (hms : ∀ x ∈ m, ∀ a ∈ x, a.s.length ≤ 9223372036854775807) (R : Ending → World → Prop)
    (hR : ∀ w', Below w.heap.size w w' → R (.returned (.bool true)) w') : Calls Try.prog 10 #[.agg #[.slice pa rc.length na, .slice qa l.length ma], .agg #[.slice pb sc.length nb, .slice qb m.length mb]] w R := by
  have HR := Lib.hid hR
  have Hrs := Lib.hid hrs
  have Hms := Lib.hid hms
  obtain ⟨wb, ewb⟩ : ∃ x, x = w.alloc (.cells #[.slice pa rc.length na, .slice qa l.length ma] 34) := ⟨_, rfl⟩
  obtain ⟨wa, ewa⟩ : ∃ x, x = wb.alloc (.cells #[.slice pb sc.length nb, .slice qb m.length mb] 34) := ⟨_, rfl⟩
  have sb : w.heap.size + 1 = wb.heap.size := by rw [ewb]; simp
  have hB1 : Below w.heap.size w wb := by rw [ewb]; exact alloc_below _ _
  have hB2 : Below wb.heap.size wb wa := by rw [ewa]; exact alloc_below _ _
  have hb1 : RelAt wb w.heap.size pa na qa ma rc l := by rw [ewb]; exact RelH.box h1 rfl
  have hb2 : RelAt wa (w.heap.size + 1) pb nb qb mb sc m := by rw [ewa]; exact RelH.box (h2.below hB1) sb
  have hb1 := hb1.below hB2
  have hBa := hB1.trans (hB2.mono hB1.size)
  clear hR hrs hms sb
  go_enter Try.func10, Try.ntmps10
  go_upto_region 1 with fail
  rw [← ewb, ← ewa]
  clear ewa ewb hB1 hB2
  obtain ⟨b2, eb2⟩ : ∃ b, b = w.heap.size := ⟨_, rfl⟩
  obtain ⟨b3, eb3⟩ : ∃ b, b = w.heap.size + 1 := ⟨_, rfl⟩
  rw [← eb3, ← eb2]
  rw [← eb2] at hb1
  rw [← eb3] at hb2
  clear eb2 eb3 h1 h2
  have HB := Lib.hid (hBa)
  have Hr := Lib.hid (hb1)
  have Hs := Lib.hid (hb2)
  clear hBa hb1 hb2
  go_wp2_with fail
  refine alive_P wa _ (fun wc1 hB => ?_)
  replace HB := Lib.hid (HB.out.trans (hB.mono HB.out.size))
  replace Hr := Lib.hid (Hr.out.below hB)
  replace Hs := Lib.hid (Hs.out.below hB)
  clear hB
  obtain ⟨c0, c1⟩ := Hr.out.blk.cells.c2
  simp only [Nat.zero_add] at c1
  obtain ⟨d0, d1⟩ := Hs.out.blk.cells.c2
  simp only [Nat.zero_add] at d1
  go_wp2_with fail
  refine great_any 0 wc1.heap.size rc _ _ l _ wc1 Hr.out.rel.rws _ ?_
  cases hg : greatB rc l
  case true =>
    clear hg c0 c1 d0 d1
    have hr := HR.out wc1 HB.out
    go_wp2_with fail
    first | exact hr | exact fin hr rfl
  obtain ⟨hclr, hllr, -⟩ := great_no hg
  clear hg
  go_wp2_with fail
  refine great_any 0 wc1.heap.size sc _ _ m _ wc1 Hs.out.rel.rws _ ?_
  cases hg : greatB sc m
  case true =>
    clear hg c0 c1 d0 d1
    have hr := HR.out wc1 HB.out
    go_wp2_with fail
    first | exact hr | exact fin hr rfl
  obtain ⟨hcls, hlls, -⟩ := great_no hg
  clear hg
  have hprod : l.length * m.length < 100000 := Nat.lt_of_le_of_lt (Nat.mul_le_mul hllr hlls) (by decide)
  have hpr2 : l.length * l.length < 100000 := Nat.lt_of_le_of_lt (Nat.mul_le_mul hllr hllr) (by decide)
  have hpr3 : m.length * l.length < 100000 := Nat.lt_of_le_of_lt (Nat.mul_le_mul hlls hllr) (by decide)
  have hlens : l.length ≤ 150 ∧ m.length ≤ 150 ∧ rc.length ≤ 60 ∧ sc.length ≤ 60 := ⟨hllr, hlls, hclr, hcls⟩
  have Hpr := Lib.hid hprod
  have Hpr2 := Lib.hid hpr2
  have Hpr3 := Lib.hid hpr3
  have Hlens := Lib.hid hlens
  clear hprod hpr2 hpr3 hlens c0 c1 d0 d1 hllr hlls hclr hcls
  obtain ⟨er, her⟩ : ∃ e, joinErr rc l sc m = e := ⟨_, rfl⟩
  obtain ⟨J1, ej1⟩ : ∃ x, okL er (joinCols rc sc) = x := ⟨_, rfl⟩
  obtain ⟨L1, el1⟩ : ∃ x, okL er (relCanon (joinL rc l sc m)) = x := ⟨_, rfl⟩
  have Her := Lib.hid her
  have Ej1 := Lib.hid ej1
  have El1 := Lib.hid el1
  clear her ej1 el1
  obtain ⟨c0, c1⟩ := Hr.out.blk.cells.c2
  simp only [Nat.zero_add] at c1
  obtain ⟨d0, d1⟩ := Hs.out.blk.cells.c2
  simp only [Nat.zero_add] at d1
  go_wp2_with fail
  refine Join_K Hr.out.rel Hs.out.rel Hpr.out (e := er) (co := J1) (lo := L1) Her.out Ej1.out El1.out _ (fun wc2 v hB hV => ?_)
  obtain ⟨p3, q4, p5, q6, rfl, hV⟩ := hV
  replace HB := Lib.hid (HB.out.trans (hB.mono HB.out.size))
  replace Hr := Lib.hid (Hr.out.below hB)
  replace Hs := Lib.hid (Hs.out.below hB)
  have Hrel7 := Lib.hid (show (Pd.rel _ _).says _ _ from ⟨_, _, _, _, rfl, hV⟩)
  clear hB hV
  clear c0 c1
  clear d0 d1
  go_upto_region 5 with fail
  have hb := RelH.box (n := wc2.heap.size) (relH Hrel7.out) rfl
  have hB := alloc_below wc2 (.cells #[.slice p3 J1.length q4, .slice p5 L1.length q6] 34)
  try simp only [List.length_cons, List.length_nil, Nat.zero_add, Nat.reduceAdd] at hb
  generalize wc2.alloc (.cells #[.slice p3 J1.length q4, .slice p5 L1.length q6] 34) = w8 at *
  obtain ⟨b6, eb6⟩ : ∃ b, b = wc2.heap.size := ⟨_, rfl⟩
  rw [← eb6] at hb ⊢
  clear eb6
  replace HB := Lib.hid (HB.out.trans (hB.mono HB.out.size))
  replace Hr := Lib.hid (Hr.out.below hB)
  replace Hs := Lib.hid (Hs.out.below hB)
  replace Hrel7 := Lib.hid (Pd.step Hrel7.out hB)
  have Hx := Lib.hid (hb)
  clear hB hb
  clear Hrel7
  by_cases he0 : er = 0
  case neg =>
    have g0 : (er != 0) = true := by simp [he0]
    clear he0
    have hr := HR.out w8 HB.out
    go_wp2_with fail
    first | exact hr | exact fin hr rfl
  have her := Her.out
  have ej1 := Ej1.out
  have el1 := El1.out
  rw [he0] at her ej1 el1
  subst he0
  rw [okL_ok rfl] at ej1 el1
  clear Her Ej1 El1
  obtain ⟨hmr, hms⟩ := join_mays her
  have hw := with_rows (sc := sc) (m := m) hmr
  have hwe := with_err hmr hms her
  have hwo := without_rows (sc := sc) (m := m) hmr
  have hwoe := wo_err hmr hms
  have hor := or_parts hmr (metB rc sc m)
  have hore := or_parts_err hmr (metB rc sc m)
  have hjn := join_parts hmr (metB rc sc m)
  have hjne := join_parts_err hmr (metB rc sc m)
  have hln := parts_len (l := l) (metB rc sc m)
  have hcl : rc.length ≤ 32 := (may_many hmr).2
  have hL1 : L1.length ≤ 100000 := by rw [← el1]; exact (joinErr_zero hmr hms her).2
  rw [ej1, el1] at hw hwe
  obtain ⟨W1, ew1⟩ : ∃ x, l.filter (metB rc sc m) = x := ⟨_, rfl⟩
  obtain ⟨N1, en1⟩ : ∃ x, l.filter (fun x => !metB rc sc m x) = x := ⟨_, rfl⟩
  rw [ew1] at hw hor hore hjn hjne hln
  rw [en1] at hwo hor hore hjn hjne hln
  have hlw : W1.length ≤ 150 := by have := Hlens.out; omega
  have hln2 : N1.length ≤ 150 := by have := Hlens.out; omega
  have hpw : W1.length * N1.length < 100000 := Nat.lt_of_le_of_lt (Nat.mul_le_mul hlw hln2) (by decide)
  have Hw := Lib.hid hw
  have Hwe := Lib.hid hwe
  have Hwo := Lib.hid hwo
  have Hwoe := Lib.hid hwoe
  have Hor := Lib.hid hor
  have Hore := Lib.hid hore
  have Hjn := Lib.hid hjn
  have Hjne := Lib.hid hjne
  have Hln := Lib.hid hln
  have Hcl := Lib.hid hcl
  have HL1 := Lib.hid hL1
  have Hpw := Lib.hid hpw
  clear her ej1 el1 ew1 en1 hmr hms hw hwe hwo hwoe hor hore hjn hjne hln hcl hL1 hpw
  obtain ⟨c0, c1⟩ := Hx.out.blk.cells.c2
  simp only [Nat.zero_add] at c1
  obtain ⟨d0, d1⟩ := Hr.out.blk.cells.c2
  simp only [Nat.zero_add] at d1
  go_wp2_with fail
  refine Project_K Hx.out.rel Hr.out.rel.strs (by have := Hcl.out; omega) (by have := HL1.out; omega) (e := 0) (co := rc) (lo := W1) Hwe.out rfl Hw.out _ (fun wc9 v hB hV => ?_)
  obtain ⟨p10, q11, p12, q13, rfl, hV⟩ := hV
  replace HB := Lib.hid (HB.out.trans (hB.mono HB.out.size))
  replace Hr := Lib.hid (Hr.out.below hB)
  replace Hs := Lib.hid (Hs.out.below hB)
  replace Hx := Lib.hid (Hx.out.below hB)
  have Hrel14 := Lib.hid (show (Pd.rel _ _).says _ _ from ⟨_, _, _, _, rfl, hV⟩)
  clear hB hV
  clear c0 c1
  clear d0 d1
  go_upto_region 8 with fail
  have hb := RelH.box (n := wc9.heap.size) (relH Hrel14.out) rfl
  have hB := alloc_below wc9 (.cells #[.slice p10 rc.length q11, .slice p12 W1.length q13] 34)
  try simp only [List.length_cons, List.length_nil, Nat.zero_add, Nat.reduceAdd] at hb
  generalize wc9.alloc (.cells #[.slice p10 rc.length q11, .slice p12 W1.length q13] 34) = w15 at *
  obtain ⟨b8, eb8⟩ : ∃ b, b = wc9.heap.size := ⟨_, rfl⟩
  rw [← eb8] at hb ⊢
  clear eb8
  replace HB := Lib.hid (HB.out.trans (hB.mono HB.out.size))
  replace Hr := Lib.hid (Hr.out.below hB)
  replace Hs := Lib.hid (Hs.out.below hB)
  replace Hx := Lib.hid (Hx.out.below hB)
  replace Hrel14 := Lib.hid (Pd.step Hrel14.out hB)
  have Hwi := Lib.hid (hb)
  clear hB hb
  clear Hrel14
  obtain ⟨c0, c1⟩ := Hr.out.blk.cells.c2
  simp only [Nat.zero_add] at c1
  obtain ⟨d0, d1⟩ := Hs.out.blk.cells.c2
  simp only [Nat.zero_add] at d1
  go_wp2_with fail
  refine Without_K Hr.out.rel Hs.out.rel (e := 0) (co := rc) (lo := N1) Hwoe.out rfl Hwo.out _ (fun wc16 v hB hV => ?_)
  obtain ⟨p17, q18, p19, q20, rfl, hV⟩ := hV
  replace HB := Lib.hid (HB.out.trans (hB.mono HB.out.size))
  replace Hr := Lib.hid (Hr.out.below hB)
  replace Hs := Lib.hid (Hs.out.below hB)
  replace Hx := Lib.hid (Hx.out.below hB)
  replace Hwi := Lib.hid (Hwi.out.below hB)
  have Hrel21 := Lib.hid (show (Pd.rel _ _).says _ _ from ⟨_, _, _, _, rfl, hV⟩)
  clear hB hV
  clear c0 c1
  clear d0 d1
  go_upto_region 9 with fail
  have hb := RelH.box (n := wc16.heap.size) (relH Hrel21.out) rfl
  have hB := alloc_below wc16 (.cells #[.slice p17 rc.length q18, .slice p19 N1.length q20] 34)
  try simp only [List.length_cons, List.length_nil, Nat.zero_add, Nat.reduceAdd] at hb
  generalize wc16.alloc (.cells #[.slice p17 rc.length q18, .slice p19 N1.length q20] 34) = w22 at *
  obtain ⟨b10, eb10⟩ : ∃ b, b = wc16.heap.size := ⟨_, rfl⟩
  rw [← eb10] at hb ⊢
  clear eb10
  replace HB := Lib.hid (HB.out.trans (hB.mono HB.out.size))
  replace Hr := Lib.hid (Hr.out.below hB)
  replace Hs := Lib.hid (Hs.out.below hB)
  replace Hx := Lib.hid (Hx.out.below hB)
  replace Hwi := Lib.hid (Hwi.out.below hB)
  replace Hrel21 := Lib.hid (Pd.step Hrel21.out hB)
  have Hno := Lib.hid (hb)
  clear hB hb
  clear Hrel21
  obtain ⟨c0, c1⟩ := Hwi.out.blk.cells.c2
  simp only [Nat.zero_add] at c1
  obtain ⟨d0, d1⟩ := Hno.out.blk.cells.c2
  simp only [Nat.zero_add] at d1
  go_wp2_with fail
  refine Or_K Hwi.out.rel Hno.out.rel (by have := Hcl.out; omega) (e := 0) (co := rc) (lo := l) Hore.out rfl Hor.out _ (fun wc23 v hB hV => ?_)
  obtain ⟨p24, q25, p26, q27, rfl, hV⟩ := hV
  replace HB := Lib.hid (HB.out.trans (hB.mono HB.out.size))
  replace Hr := Lib.hid (Hr.out.below hB)
  replace Hs := Lib.hid (Hs.out.below hB)
  replace Hx := Lib.hid (Hx.out.below hB)
  replace Hwi := Lib.hid (Hwi.out.below hB)
  replace Hno := Lib.hid (Hno.out.below hB)
  have Hrel28 := Lib.hid (show (Pd.rel _ _).says _ _ from ⟨_, _, _, _, rfl, hV⟩)
  clear hB hV
  clear c0 c1
  clear d0 d1
  go_upto_region 10 with fail
  have hb := RelH.box (n := wc23.heap.size) (relH Hrel28.out) rfl
  have hB := alloc_below wc23 (.cells #[.slice p24 rc.length q25, .slice p26 l.length q27] 34)
  try simp only [List.length_cons, List.length_nil, Nat.zero_add, Nat.reduceAdd] at hb
  generalize wc23.alloc (.cells #[.slice p24 rc.length q25, .slice p26 l.length q27] 34) = w29 at *
  obtain ⟨b12, eb12⟩ : ∃ b, b = wc23.heap.size := ⟨_, rfl⟩
  rw [← eb12] at hb ⊢
  clear eb12
  replace HB := Lib.hid (HB.out.trans (hB.mono HB.out.size))
  replace Hr := Lib.hid (Hr.out.below hB)
  replace Hs := Lib.hid (Hs.out.below hB)
  replace Hx := Lib.hid (Hx.out.below hB)
  replace Hwi := Lib.hid (Hwi.out.below hB)
  replace Hno := Lib.hid (Hno.out.below hB)
  replace Hrel28 := Lib.hid (Pd.step Hrel28.out hB)
  have Hal := Lib.hid (hb)
  clear hB hb
  clear Hrel28
  obtain ⟨c0, c1⟩ := Hwi.out.blk.cells.c2
  simp only [Nat.zero_add] at c1
  obtain ⟨d0, d1⟩ := Hno.out.blk.cells.c2
  simp only [Nat.zero_add] at d1
  go_wp2_with fail
  refine Join_K Hwi.out.rel Hno.out.rel Hpw.out (e := 0) (co := rc) (lo := []) Hjne.out (by rw [joinCols_self]; rfl) (by rw [Hjn.out]; rfl) _ (fun wc30 v hB hV => ?_)
  obtain ⟨p31, q32, p33, q34, rfl, hV⟩ := hV
  replace HB := Lib.hid (HB.out.trans (hB.mono HB.out.size))
  replace Hr := Lib.hid (Hr.out.below hB)
  replace Hs := Lib.hid (Hs.out.below hB)
  replace Hx := Lib.hid (Hx.out.below hB)
  replace Hwi := Lib.hid (Hwi.out.below hB)
  replace Hno := Lib.hid (Hno.out.below hB)
  replace Hal := Lib.hid (Hal.out.below hB)
  have Hrel35 := Lib.hid (show (Pd.rel _ _).says _ _ from ⟨_, _, _, _, rfl, hV⟩)
  clear hB hV
  clear c0 c1
  clear d0 d1
  go_upto_region 11 with fail
  have hb := RelH.box (n := wc30.heap.size) (relH Hrel35.out) rfl
  have hB := alloc_below wc30 (.cells #[.slice p31 rc.length q32, .slice p33 0 q34] 34)
  try simp only [List.length_cons, List.length_nil, Nat.zero_add, Nat.reduceAdd] at hb
  generalize wc30.alloc (.cells #[.slice p31 rc.length q32, .slice p33 0 q34] 34) = w36 at *
  obtain ⟨b14, eb14⟩ : ∃ b, b = wc30.heap.size := ⟨_, rfl⟩
  rw [← eb14] at hb ⊢
  clear eb14
  replace HB := Lib.hid (HB.out.trans (hB.mono HB.out.size))
  replace Hr := Lib.hid (Hr.out.below hB)
  replace Hs := Lib.hid (Hs.out.below hB)
  replace Hx := Lib.hid (Hx.out.below hB)
  replace Hwi := Lib.hid (Hwi.out.below hB)
  replace Hno := Lib.hid (Hno.out.below hB)
  replace Hal := Lib.hid (Hal.out.below hB)
  replace Hrel35 := Lib.hid (Pd.step Hrel35.out hB)
  have Hbo := Lib.hid (hb)
  clear hB hb
  clear Hrel35
  obtain ⟨c0, c1⟩ := Hal.out.blk.cells.c2
  simp only [Nat.zero_add] at c1
  obtain ⟨d0, d1⟩ := Hr.out.blk.cells.c2
  simp only [Nat.zero_add] at d1
  go_wp2_with fail
  refine Same_K Hal.out.rel Hr.out.rel rfl rfl Hrs.out _ (fun wc37 hB => ?_)
  replace HB := Lib.hid (HB.out.trans (hB.mono HB.out.size))
  replace Hr := Lib.hid (Hr.out.below hB)
  replace Hs := Lib.hid (Hs.out.below hB)
  replace Hx := Lib.hid (Hx.out.below hB)
  replace Hwi := Lib.hid (Hwi.out.below hB)
  replace Hno := Lib.hid (Hno.out.below hB)
  replace Hal := Lib.hid (Hal.out.below hB)
  replace Hbo := Lib.hid (Hbo.out.below hB)
  clear hB c0 c1 d0 d1
  obtain ⟨c0, c1⟩ := Hbo.out.blk.cells.c2
  simp only [Nat.zero_add] at c1
  obtain ⟨d0, d1⟩ := Hwi.out.blk.cells.c2
  simp only [Nat.zero_add] at d1
  obtain ⟨e0, e1⟩ := Hno.out.blk.cells.c2
  simp only [Nat.zero_add] at e1
  obtain ⟨f0, f1⟩ := Hr.out.blk.cells.c2
  simp only [Nat.zero_add] at f1
  try simp only [List.length_nil] at c1
  have hsum : IntKind.i64.wrap ((W1.length : Int) + (N1.length : Int)) = (l.length : Int) := by
    have := Hln.out
    have h2 := Hlens.out
    rw [wrapOk (by omega) (by omega)]
    omega
  have hr := HR.out wc37 HB.out
  go_wp2_with fail
  first | exact hr | exact fin hr rfl
end Go.Proofs.Ytpncblagjkbemaa
end

/- The walk of RowsParts, of two relations as arguments lay them. -/
section
set_option linter.unusedVariables false
set_option linter.unusedSimpArgs false
namespace Go.Proofs.Ytpncblagjkbemaa
open Go.RowKit
theorem RowsParts_rel (p q : List S × List (List V)) (v u : Value) (w : World) (hp : RelIn w v p) (ho : relOk p) (hq : RelIn w u q) (hoq : relOk q) (R : Ending → World → Prop)
    (hR : ∀ w', Below w.heap.size w w' → R (.returned (.bool true)) w') : Calls Try.prog 10 #[v, u] w R := by
  obtain ⟨ac, cc, lv, rfl, h1, h2⟩ := hp
  obtain ⟨ad, cd, mv, rfl, h3, h4⟩ := hq
  obtain ⟨p1, q1, rfl, -, -, -, -⟩ := h2.form
  obtain ⟨p2, q2, rfl, -, -, -, -⟩ := h4.form
  exact RowsParts_any w ⟨h1, h2⟩ ⟨h3, h4⟩ (fun x hx a ha => ho x hx a ha) (fun x hx a ha => hoq x hx a ha) R hR
end Go.Proofs.Ytpncblagjkbemaa
end

/- RowsParts holds outright: for any two relations the call returns true, and the arguments read behind it as before. No condition. -/
section
set_option linter.unusedVariables false
set_option linter.unusedSimpArgs false
namespace Go.Proofs.Ytpncblagjkbemaa.rowsParts
open Go.ChangeShapes Go.WideShapes Go.ChangeAt Go.RowKit
open Go.ChangeMaps (open_string shut_string)
set_option linter.unusedVariables false

set_option maxRecDepth 100000 in
theorem contract (H : Type) (enc : TypeId × Value → H) (W : World) (base : Nat) (args : Array Value) (ds gs : List (DataW H)) (before : List MemPlace)
    (hval : ∀ (j : Nat) t v, Try.f10.params[j]? = some t → args[j]? = some v → Value.okWide Try.prog W .any base t v)
    (hW : DataW.Whole enc Try.prog Try.f10.params.toList Rows.rowsPartsSpec.vars false W args.toList ds gs before) :
    Calls Try.prog 10 args W fun e W' => ∃ v, e = .returned v ∧ Rows.rowsPartsSpec.post enc Try.prog Try.f10 false true false false W args v W' := by
  have hW' := hW
  obtain ⟨p, q, hA0, hV, rfl, hfz, hnd⟩ := hW
  have hA : DataW.TrodAll enc Try.prog W 0 (fun _ => true) true Try.f10.params.toList args.toList ds p := hA0
  rw [Try.params10] at hA hval
  have hAk := hA
  obtain ⟨v0, vs0, d0, ds0, p0, q0, hargs, rfl, rfl, h0, r0⟩ := trodAll_cons hA
  obtain ⟨v1, vs1, d1, ds1, p1, q1, rfl, rfl, rfl, h1, r1⟩ := trodAll_cons r0
  obtain ⟨rfl, rfl, rfl⟩ := trodAll_nil r1
  obtain rfl : args = #[v0, v1] := by cases args; simp_all
  obtain ⟨rfl, rfl⟩ := trodVars_none hV
  obtain ⟨x0, s0, o0⟩ := open_rel (hval 0 34 v0 rfl rfl) h0
  obtain ⟨x1, s1, o1⟩ := open_rel (hval 1 34 v1 rfl rfl) h1
  clear hA0
  refine RowsParts_rel x0 x1 _ _ W s0 o0 s1 o1 _ fun W' bel => ?_
  exact ⟨_, rfl, _, _, _, [], _, [], hW', trodAll_mk1 (shut_bool Try.underlying4 _), trodAll_below laidOut bel _ _ _ _ (by kernel_rfl) hAk, rfl, bel.frame _, fun h => by cases h⟩

set_option maxRecDepth 100000 in
theorem lifted (os : Os) (started : os.Started) (H : Type) (enc : TypeId × Value → H) :
    ReturnsInHanded {} Try.checked os 10 .any (Rows.rowsPartsSpec.pre6 enc Try.prog Try.f10 Rows.rowsPartsRow.domain false) (Rows.rowsPartsSpec.post enc Try.prog Try.f10 false true false false) := by
  refine returnsInHanded_of_change (C := Try.checked) own started (by kernel_rfl) Try.func10
    (ChangeSpec.witness6 (enc := enc) (C := Try.checked) false ⟨#[], #[.agg #[.slice none 0 0, .slice none 0 0], .agg #[.slice none 0 0, .slice none 0 0]], []⟩ 8 (by kernel_rfl) (by kernel_rfl) (by kernel_rfl) (by kernel_rfl)) ?_
  intro W base args ds gs before hval hW _ _
  exact contract H enc W base args ds gs before hval hW

theorem over : Rows.rowsPartsRow.holds Try.pinned (OpenSpec.ofChange Rows.rowsPartsSpec) :=
  OpenClaim.holds_of_wide 10 Try.f10 rfl rfl rfl rfl rfl rfl rfl ⟨rfl, rfl, rfl, rfl, rfl⟩ rfl rfl rfl rfl rfl (by kernel_rfl) Try.func10 (by kernel_rfl)
    (of_decide_eq_true (by kernel_rfl)) (by unfold Func.isWrapper; first | (rw [if_pos (by decide +kernel)]; kernel_rfl) | (rw [if_neg (by decide +kernel)]; exact ⟨rfl, rfl⟩))
    (fun os started H enc _ => lifted os started H enc)

theorem proved : Rows.RowsPartsSaid := over
end Go.Proofs.Ytpncblagjkbemaa.rowsParts
end
