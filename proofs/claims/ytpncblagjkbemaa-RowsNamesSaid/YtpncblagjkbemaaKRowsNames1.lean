/- RowsNames holds outright: the call returns true. It takes no argument, and there is no condition. -/
import Derived.Test.YtpncblagjkbemaaKRB7
/- RowsNames, walked. (Printed by outn.py.) -/
section
set_option linter.unusedVariables false
set_option linter.unusedSimpArgs false
namespace Go.Proofs.Ytpncblagjkbemaa
open Go.RowKit
set_option linter.unusedVariables false
set_option linter.unusedSimpArgs false
attribute [local go_sem ↓] Go.wp_at_zero Go.wp_at_succ

set_option maxRecDepth 100000 in
set_option maxHeartbeats 16000000 in
theorem RowsNames_any (w : World) (R : Ending → World → Prop) (hR : ∀ w', Below w.heap.size w w' → R (.returned (.bool true)) w') : Calls Try.prog 11 #[] w R := by
  have HR := Lib.hid hR
  clear hR
  go_enter Try.func11, Try.ntmps11
  have hB0 : Below w.heap.size w w := Below.refl _ _
  have HB := Lib.hid (hB0)
  clear hB0
  go_wp2_with fail
  refine one_P w _ (fun wc1 v hB hV => ?_)
  obtain ⟨p2, q3, p4, q5, rfl, hV⟩ := hV
  replace HB := Lib.hid (HB.out.trans (hB.mono HB.out.size))
  have Hrel6 := Lib.hid (show (Pd.rel _ _).says _ _ from ⟨_, _, _, _, rfl, hV⟩)
  clear hB hV
  go_wp2_with fail
  refine two_P wc1 _ (fun wc7 v hB hV => ?_)
  obtain ⟨p8, q9, p10, q11, rfl, hV⟩ := hV
  replace HB := Lib.hid (HB.out.trans (hB.mono HB.out.size))
  replace Hrel6 := Lib.hid (Pd.step Hrel6.out hB)
  have Hrel12 := Lib.hid (show (Pd.rel _ _).says _ _ from ⟨_, _, _, _, rfl, hV⟩)
  clear hB hV
  go_wp2_with fail
  refine Without_K (relH Hrel6.out) (relH Hrel12.out) (e := 0) (co := [[120], [121]]) (lo := [[i1 1, i1 3]]) (by decide +kernel) (by decide +kernel) (by decide +kernel) _ (fun wc13 v hB hV => ?_)
  obtain ⟨p14, q15, p16, q17, rfl, hV⟩ := hV
  replace HB := Lib.hid (HB.out.trans (hB.mono HB.out.size))
  replace Hrel6 := Lib.hid (Pd.step Hrel6.out hB)
  replace Hrel12 := Lib.hid (Pd.step Hrel12.out hB)
  have Hrel18 := Lib.hid (show (Pd.rel _ _).says _ _ from ⟨_, _, _, _, rfl, hV⟩)
  clear hB hV
  go_upto_region 2 with fail
  have hb := RelH.box (n := wc13.heap.size) (relH Hrel18.out) rfl
  have hB := alloc_below wc13 (.cells #[.slice p14 2 q15, .slice p16 1 q17] 34)
  try simp only [List.length_cons, List.length_nil, Nat.zero_add, Nat.reduceAdd] at hb
  generalize wc13.alloc (.cells #[.slice p14 2 q15, .slice p16 1 q17] 34) = w19 at *
  obtain ⟨b1, eb1⟩ : ∃ b, b = wc13.heap.size := ⟨_, rfl⟩
  rw [← eb1] at hb ⊢
  clear eb1
  replace HB := Lib.hid (HB.out.trans (hB.mono HB.out.size))
  replace Hrel6 := Lib.hid (Pd.step Hrel6.out hB)
  replace Hrel12 := Lib.hid (Pd.step Hrel12.out hB)
  replace Hrel18 := Lib.hid (Pd.step Hrel18.out hB)
  have Hv1 := Lib.hid (hb)
  clear hB hb
  clear Hrel18
  clear Hrel6 Hrel12
  go_wp2_with fail
  refine one_P w19 _ (fun wc20 v hB hV => ?_)
  obtain ⟨p21, q22, p23, q24, rfl, hV⟩ := hV
  replace HB := Lib.hid (HB.out.trans (hB.mono HB.out.size))
  replace Hv1 := Lib.hid (Hv1.out.below hB)
  have Hrel25 := Lib.hid (show (Pd.rel _ _).says _ _ from ⟨_, _, _, _, rfl, hV⟩)
  clear hB hV
  obtain ⟨wl26, ewl26⟩ : ∃ x, x = wc20.alloc (.cells #[.string ⟨#[120]⟩] 9) := ⟨_, rfl⟩
  have hB : Below wc20.heap.size wc20 wl26 := by rw [ewl26]; exact alloc_below _ _
  have hsz : wc20.heap.size + 1 = wl26.heap.size := by rw [ewl26]; simp
  have hV : (Pd.strs [[120]]).says (.slice (some ⟨wc20.heap.size, 0, none⟩) 1 1) wl26 := by rw [ewl26]; exact Pd.strsLit wc20 [[120]] (by decide) rfl
  replace HB := Lib.hid (HB.out.trans (hB.mono HB.out.size))
  replace Hv1 := Lib.hid (Hv1.out.below hB)
  replace Hrel25 := Lib.hid (Pd.step Hrel25.out hB)
  have Hwl26 := Lib.hid (hV)
  have Hewl26 := Lib.hid ewl26
  have hswl26 := Lib.hid hsz
  clear hB hV hsz ewl26
  go_wp2_with fail
  rw [← Hewl26.out]
  clear Hewl26
  refine Project_K (relH Hrel25.out) Hwl26.out (by decide) (by decide) (e := 0) (co := [[120]]) (lo := [[i1 1], [i1 2]]) (by decide +kernel) (by decide +kernel) (by decide +kernel) _ (fun wc27 v hB hV => ?_)
  obtain ⟨p28, q29, p30, q31, rfl, hV⟩ := hV
  replace HB := Lib.hid (HB.out.trans (hB.mono HB.out.size))
  replace Hv1 := Lib.hid (Hv1.out.below hB)
  replace Hrel25 := Lib.hid (Pd.step Hrel25.out hB)
  replace Hwl26 := Lib.hid (Pd.step Hwl26.out hB)
  have Hrel32 := Lib.hid (show (Pd.rel _ _).says _ _ from ⟨_, _, _, _, rfl, hV⟩)
  clear hB hV
  go_upto_region 3 with fail
  have hb := RelH.box (n := wc27.heap.size) (relH Hrel32.out) rfl
  have hB := alloc_below wc27 (.cells #[.slice p28 1 q29, .slice p30 2 q31] 34)
  try simp only [List.length_cons, List.length_nil, Nat.zero_add, Nat.reduceAdd] at hb
  generalize wc27.alloc (.cells #[.slice p28 1 q29, .slice p30 2 q31] 34) = w33 at *
  obtain ⟨b3, eb3⟩ : ∃ b, b = wc27.heap.size := ⟨_, rfl⟩
  rw [← eb3] at hb ⊢
  clear eb3
  replace HB := Lib.hid (HB.out.trans (hB.mono HB.out.size))
  replace Hv1 := Lib.hid (Hv1.out.below hB)
  replace Hrel25 := Lib.hid (Pd.step Hrel25.out hB)
  replace Hwl26 := Lib.hid (Pd.step Hwl26.out hB)
  replace Hrel32 := Lib.hid (Pd.step Hrel32.out hB)
  have Hv3 := Lib.hid (hb)
  clear hB hb
  clear Hrel32
  clear Hrel25 Hwl26
  go_wp2_with fail
  refine one_P w33 _ (fun wc34 v hB hV => ?_)
  obtain ⟨p35, q36, p37, q38, rfl, hV⟩ := hV
  replace HB := Lib.hid (HB.out.trans (hB.mono HB.out.size))
  replace Hv1 := Lib.hid (Hv1.out.below hB)
  replace Hv3 := Lib.hid (Hv3.out.below hB)
  have Hrel39 := Lib.hid (show (Pd.rel _ _).says _ _ from ⟨_, _, _, _, rfl, hV⟩)
  clear hB hV
  obtain ⟨wl40, ewl40⟩ : ∃ x, x = wc34.alloc (.cells #[.string ⟨#[120]⟩] 9) := ⟨_, rfl⟩
  have hB : Below wc34.heap.size wc34 wl40 := by rw [ewl40]; exact alloc_below _ _
  have hsz : wc34.heap.size + 1 = wl40.heap.size := by rw [ewl40]; simp
  have hV : (Pd.strs [[120]]).says (.slice (some ⟨wc34.heap.size, 0, none⟩) 1 1) wl40 := by rw [ewl40]; exact Pd.strsLit wc34 [[120]] (by decide) rfl
  replace HB := Lib.hid (HB.out.trans (hB.mono HB.out.size))
  replace Hv1 := Lib.hid (Hv1.out.below hB)
  replace Hv3 := Lib.hid (Hv3.out.below hB)
  replace Hrel39 := Lib.hid (Pd.step Hrel39.out hB)
  have Hwl40 := Lib.hid (hV)
  have Hewl40 := Lib.hid ewl40
  have hswl40 := Lib.hid hsz
  clear hB hV hsz ewl40
  go_wp2_with fail
  rw [← Hewl40.out]
  clear Hewl40
  refine rel_P Hwl40.out (show (Pd.rows []).says (.slice none 0 0) wl40 from Sl.nil _ _ _ _ _) (by decide) (by decide) (co := [[120]]) (lo := []) (by decide +kernel) (by decide +kernel) _ (fun wc41 v hB hV => ?_)
  obtain ⟨p42, q43, p44, q45, rfl, hV⟩ := hV
  replace HB := Lib.hid (HB.out.trans (hB.mono HB.out.size))
  replace Hv1 := Lib.hid (Hv1.out.below hB)
  replace Hv3 := Lib.hid (Hv3.out.below hB)
  replace Hrel39 := Lib.hid (Pd.step Hrel39.out hB)
  replace Hwl40 := Lib.hid (Pd.step Hwl40.out hB)
  have Hrel46 := Lib.hid (show (Pd.rel _ _).says _ _ from ⟨_, _, _, _, rfl, hV⟩)
  clear hB hV
  go_wp2_with fail
  refine Join_K (relH Hrel39.out) (relH Hrel46.out) (by decide) (e := 0) (co := [[120], [121]]) (lo := []) (by decide +kernel) (by decide +kernel) (by decide +kernel) _ (fun wc47 v hB hV => ?_)
  obtain ⟨p48, q49, p50, q51, rfl, hV⟩ := hV
  replace HB := Lib.hid (HB.out.trans (hB.mono HB.out.size))
  replace Hv1 := Lib.hid (Hv1.out.below hB)
  replace Hv3 := Lib.hid (Hv3.out.below hB)
  replace Hrel39 := Lib.hid (Pd.step Hrel39.out hB)
  replace Hwl40 := Lib.hid (Pd.step Hwl40.out hB)
  replace Hrel46 := Lib.hid (Pd.step Hrel46.out hB)
  have Hrel52 := Lib.hid (show (Pd.rel _ _).says _ _ from ⟨_, _, _, _, rfl, hV⟩)
  clear hB hV
  go_upto_region 4 with fail
  have hb := RelH.box (n := wc47.heap.size) (relH Hrel52.out) rfl
  have hB := alloc_below wc47 (.cells #[.slice p48 2 q49, .slice p50 0 q51] 34)
  try simp only [List.length_cons, List.length_nil, Nat.zero_add, Nat.reduceAdd] at hb
  generalize wc47.alloc (.cells #[.slice p48 2 q49, .slice p50 0 q51] 34) = w53 at *
  obtain ⟨b5, eb5⟩ : ∃ b, b = wc47.heap.size := ⟨_, rfl⟩
  rw [← eb5] at hb ⊢
  clear eb5
  replace HB := Lib.hid (HB.out.trans (hB.mono HB.out.size))
  replace Hv1 := Lib.hid (Hv1.out.below hB)
  replace Hv3 := Lib.hid (Hv3.out.below hB)
  replace Hrel39 := Lib.hid (Pd.step Hrel39.out hB)
  replace Hwl40 := Lib.hid (Pd.step Hwl40.out hB)
  replace Hrel46 := Lib.hid (Pd.step Hrel46.out hB)
  replace Hrel52 := Lib.hid (Pd.step Hrel52.out hB)
  have Hv5 := Lib.hid (hb)
  clear hB hb
  clear Hrel52
  clear Hrel39 Hwl40 Hrel46
  go_wp2_with fail
  refine one_P w53 _ (fun wc54 v hB hV => ?_)
  obtain ⟨p55, q56, p57, q58, rfl, hV⟩ := hV
  replace HB := Lib.hid (HB.out.trans (hB.mono HB.out.size))
  replace Hv1 := Lib.hid (Hv1.out.below hB)
  replace Hv3 := Lib.hid (Hv3.out.below hB)
  replace Hv5 := Lib.hid (Hv5.out.below hB)
  have Hrel59 := Lib.hid (show (Pd.rel _ _).says _ _ from ⟨_, _, _, _, rfl, hV⟩)
  clear hB hV
  obtain ⟨wl60, ewl60⟩ : ∃ x, x = wc54.alloc (.cells #[] 24) := ⟨_, rfl⟩
  have hB : Below wc54.heap.size wc54 wl60 := by rw [ewl60]; exact alloc_below _ _
  have hsz : wc54.heap.size + 1 = wl60.heap.size := by rw [ewl60]; simp
  have hV : (Pd.row []).says (.slice (some ⟨wc54.heap.size, 0, none⟩) 0 0) wl60 := Sl.empty _ _ _ _ _ _ _ (by decide) (fun h => by cases h)
  replace HB := Lib.hid (HB.out.trans (hB.mono HB.out.size))
  replace Hv1 := Lib.hid (Hv1.out.below hB)
  replace Hv3 := Lib.hid (Hv3.out.below hB)
  replace Hv5 := Lib.hid (Hv5.out.below hB)
  replace Hrel59 := Lib.hid (Pd.step Hrel59.out hB)
  have Hwl60 := Lib.hid (hV)
  have Hewl60 := Lib.hid ewl60
  have hswl60 := Lib.hid hsz
  clear hB hV hsz ewl60
  obtain ⟨wl61, ewl61⟩ : ∃ x, x = wl60.alloc (.cells #[.slice (some ⟨wc54.heap.size, 0, none⟩) 0 0] 42) := ⟨_, rfl⟩
  have hB : Below wl60.heap.size wl60 wl61 := by rw [ewl61]; exact alloc_below _ _
  have hsz : wc54.heap.size + 1 + 1 = wl61.heap.size := by rw [ewl61]; simp; exact hswl60.out
  have hV : (Pd.rows [[]]).says (.slice (some ⟨wc54.heap.size + 1, 0, none⟩) 1 1) wl61 := by rw [ewl61]; exact Pd.rowsLit wl60 [.slice (some ⟨wc54.heap.size, 0, none⟩) 0 0] [[]] ⟨Hwl60.out, trivial⟩ (by decide) hswl60.out
  replace HB := Lib.hid (HB.out.trans (hB.mono HB.out.size))
  replace Hv1 := Lib.hid (Hv1.out.below hB)
  replace Hv3 := Lib.hid (Hv3.out.below hB)
  replace Hv5 := Lib.hid (Hv5.out.below hB)
  replace Hrel59 := Lib.hid (Pd.step Hrel59.out hB)
  replace Hwl60 := Lib.hid (Pd.step Hwl60.out hB)
  have Hwl61 := Lib.hid (hV)
  have Hewl61 := Lib.hid ewl61
  have hswl61 := Lib.hid hsz
  clear hB hV hsz ewl61
  go_wp2_with fail
  rw [← Hewl60.out, ← Hewl61.out]
  clear Hewl60 Hewl61
  refine rel_P (show (Pd.strs []).says (.slice none 0 0) wl61 from Sl.nil _ _ _ _ _) Hwl61.out (by decide) (by decide) (co := []) (lo := [[]]) (by decide +kernel) (by decide +kernel) _ (fun wc62 v hB hV => ?_)
  obtain ⟨p63, q64, p65, q66, rfl, hV⟩ := hV
  replace HB := Lib.hid (HB.out.trans (hB.mono HB.out.size))
  replace Hv1 := Lib.hid (Hv1.out.below hB)
  replace Hv3 := Lib.hid (Hv3.out.below hB)
  replace Hv5 := Lib.hid (Hv5.out.below hB)
  replace Hrel59 := Lib.hid (Pd.step Hrel59.out hB)
  replace Hwl60 := Lib.hid (Pd.step Hwl60.out hB)
  replace Hwl61 := Lib.hid (Pd.step Hwl61.out hB)
  have Hrel67 := Lib.hid (show (Pd.rel _ _).says _ _ from ⟨_, _, _, _, rfl, hV⟩)
  clear hB hV
  go_wp2_with fail
  refine Join_K (relH Hrel59.out) (relH Hrel67.out) (by decide) (e := 0) (co := [[120], [121]]) (lo := oneR) (by decide +kernel) (by decide +kernel) (by decide +kernel) _ (fun wc68 v hB hV => ?_)
  obtain ⟨p69, q70, p71, q72, rfl, hV⟩ := hV
  replace HB := Lib.hid (HB.out.trans (hB.mono HB.out.size))
  replace Hv1 := Lib.hid (Hv1.out.below hB)
  replace Hv3 := Lib.hid (Hv3.out.below hB)
  replace Hv5 := Lib.hid (Hv5.out.below hB)
  replace Hrel59 := Lib.hid (Pd.step Hrel59.out hB)
  replace Hwl60 := Lib.hid (Pd.step Hwl60.out hB)
  replace Hwl61 := Lib.hid (Pd.step Hwl61.out hB)
  replace Hrel67 := Lib.hid (Pd.step Hrel67.out hB)
  have Hrel73 := Lib.hid (show (Pd.rel _ _).says _ _ from ⟨_, _, _, _, rfl, hV⟩)
  clear hB hV
  go_upto_region 5 with fail
  have hb := RelH.box (n := wc68.heap.size) (relH Hrel73.out) rfl
  have hB := alloc_below wc68 (.cells #[.slice p69 2 q70, .slice p71 oneR.length q72] 34)
  try simp only [List.length_cons, List.length_nil, Nat.zero_add, Nat.reduceAdd] at hb
  generalize wc68.alloc (.cells #[.slice p69 2 q70, .slice p71 oneR.length q72] 34) = w74 at *
  obtain ⟨b7, eb7⟩ : ∃ b, b = wc68.heap.size := ⟨_, rfl⟩
  rw [← eb7] at hb ⊢
  clear eb7
  replace HB := Lib.hid (HB.out.trans (hB.mono HB.out.size))
  replace Hv1 := Lib.hid (Hv1.out.below hB)
  replace Hv3 := Lib.hid (Hv3.out.below hB)
  replace Hv5 := Lib.hid (Hv5.out.below hB)
  replace Hrel59 := Lib.hid (Pd.step Hrel59.out hB)
  replace Hwl60 := Lib.hid (Pd.step Hwl60.out hB)
  replace Hwl61 := Lib.hid (Pd.step Hwl61.out hB)
  replace Hrel67 := Lib.hid (Pd.step Hrel67.out hB)
  replace Hrel73 := Lib.hid (Pd.step Hrel73.out hB)
  have Hv7 := Lib.hid (hb)
  clear hB hb
  clear Hrel73
  clear Hrel59 Hwl60 Hwl61 Hrel67
  go_wp2_with fail
  refine one_P w74 _ (fun wc75 v hB hV => ?_)
  obtain ⟨p76, q77, p78, q79, rfl, hV⟩ := hV
  replace HB := Lib.hid (HB.out.trans (hB.mono HB.out.size))
  replace Hv1 := Lib.hid (Hv1.out.below hB)
  replace Hv3 := Lib.hid (Hv3.out.below hB)
  replace Hv5 := Lib.hid (Hv5.out.below hB)
  replace Hv7 := Lib.hid (Hv7.out.below hB)
  have Hrel80 := Lib.hid (show (Pd.rel _ _).says _ _ from ⟨_, _, _, _, rfl, hV⟩)
  clear hB hV
  obtain ⟨wl81, ewl81⟩ : ∃ x, x = wc75.alloc (.cells #[.string ⟨#[119]⟩] 9) := ⟨_, rfl⟩
  have hB : Below wc75.heap.size wc75 wl81 := by rw [ewl81]; exact alloc_below _ _
  have hsz : wc75.heap.size + 1 = wl81.heap.size := by rw [ewl81]; simp
  have hV : (Pd.strs [[119]]).says (.slice (some ⟨wc75.heap.size, 0, none⟩) 1 1) wl81 := by rw [ewl81]; exact Pd.strsLit wc75 [[119]] (by decide) rfl
  replace HB := Lib.hid (HB.out.trans (hB.mono HB.out.size))
  replace Hv1 := Lib.hid (Hv1.out.below hB)
  replace Hv3 := Lib.hid (Hv3.out.below hB)
  replace Hv5 := Lib.hid (Hv5.out.below hB)
  replace Hv7 := Lib.hid (Hv7.out.below hB)
  replace Hrel80 := Lib.hid (Pd.step Hrel80.out hB)
  have Hwl81 := Lib.hid (hV)
  have Hewl81 := Lib.hid ewl81
  have hswl81 := Lib.hid hsz
  clear hB hV hsz ewl81
  go_wp2_with fail
  rw [← Hewl81.out]
  clear Hewl81
  refine Project_K (relH Hrel80.out) Hwl81.out (by decide) (by decide) (e := 2) (co := []) (lo := []) (by decide +kernel) (by decide +kernel) (by decide +kernel) _ (fun wc82 v hB hV => ?_)
  obtain ⟨p83, q84, p85, q86, rfl, hV⟩ := hV
  replace HB := Lib.hid (HB.out.trans (hB.mono HB.out.size))
  replace Hv1 := Lib.hid (Hv1.out.below hB)
  replace Hv3 := Lib.hid (Hv3.out.below hB)
  replace Hv5 := Lib.hid (Hv5.out.below hB)
  replace Hv7 := Lib.hid (Hv7.out.below hB)
  replace Hrel80 := Lib.hid (Pd.step Hrel80.out hB)
  replace Hwl81 := Lib.hid (Pd.step Hwl81.out hB)
  have Hrel87 := Lib.hid (show (Pd.rel _ _).says _ _ from ⟨_, _, _, _, rfl, hV⟩)
  clear hB hV
  go_upto_region 6 with fail
  have hb := RelH.box (n := wc82.heap.size) (relH Hrel87.out) rfl
  have hB := alloc_below wc82 (.cells #[.slice p83 0 q84, .slice p85 0 q86] 34)
  try simp only [List.length_cons, List.length_nil, Nat.zero_add, Nat.reduceAdd] at hb
  generalize wc82.alloc (.cells #[.slice p83 0 q84, .slice p85 0 q86] 34) = w88 at *
  obtain ⟨b9, eb9⟩ : ∃ b, b = wc82.heap.size := ⟨_, rfl⟩
  rw [← eb9] at hb ⊢
  clear eb9
  replace HB := Lib.hid (HB.out.trans (hB.mono HB.out.size))
  replace Hv1 := Lib.hid (Hv1.out.below hB)
  replace Hv3 := Lib.hid (Hv3.out.below hB)
  replace Hv5 := Lib.hid (Hv5.out.below hB)
  replace Hv7 := Lib.hid (Hv7.out.below hB)
  replace Hrel80 := Lib.hid (Pd.step Hrel80.out hB)
  replace Hwl81 := Lib.hid (Pd.step Hwl81.out hB)
  replace Hrel87 := Lib.hid (Pd.step Hrel87.out hB)
  have Hv9 := Lib.hid (hb)
  clear hB hb
  clear Hrel87
  clear Hrel80 Hwl81
  clear Hv9
  go_wp2_with fail
  refine one_P w88 _ (fun wc89 v hB hV => ?_)
  obtain ⟨p90, q91, p92, q93, rfl, hV⟩ := hV
  replace HB := Lib.hid (HB.out.trans (hB.mono HB.out.size))
  replace Hv1 := Lib.hid (Hv1.out.below hB)
  replace Hv3 := Lib.hid (Hv3.out.below hB)
  replace Hv5 := Lib.hid (Hv5.out.below hB)
  replace Hv7 := Lib.hid (Hv7.out.below hB)
  have Hrel94 := Lib.hid (show (Pd.rel _ _).says _ _ from ⟨_, _, _, _, rfl, hV⟩)
  clear hB hV
  obtain ⟨wl95, ewl95⟩ : ∃ x, x = wc89.alloc (.cells #[.string ⟨#[121]⟩] 9) := ⟨_, rfl⟩
  have hB : Below wc89.heap.size wc89 wl95 := by rw [ewl95]; exact alloc_below _ _
  have hsz : wc89.heap.size + 1 = wl95.heap.size := by rw [ewl95]; simp
  have hV : (Pd.strs [[121]]).says (.slice (some ⟨wc89.heap.size, 0, none⟩) 1 1) wl95 := by rw [ewl95]; exact Pd.strsLit wc89 [[121]] (by decide) rfl
  replace HB := Lib.hid (HB.out.trans (hB.mono HB.out.size))
  replace Hv1 := Lib.hid (Hv1.out.below hB)
  replace Hv3 := Lib.hid (Hv3.out.below hB)
  replace Hv5 := Lib.hid (Hv5.out.below hB)
  replace Hv7 := Lib.hid (Hv7.out.below hB)
  replace Hrel94 := Lib.hid (Pd.step Hrel94.out hB)
  have Hwl95 := Lib.hid (hV)
  have Hewl95 := Lib.hid ewl95
  have hswl95 := Lib.hid hsz
  clear hB hV hsz ewl95
  go_wp2_with fail
  rw [← Hewl95.out]
  clear Hewl95
  refine Rename_K (relH Hrel94.out) Hwl95.out (by decide) (e := 2) (co := []) (lo := []) (by decide +kernel) (by decide +kernel) (by decide +kernel) _ (fun wc96 v hB hV => ?_)
  obtain ⟨p97, q98, p99, q100, rfl, hV⟩ := hV
  replace HB := Lib.hid (HB.out.trans (hB.mono HB.out.size))
  replace Hv1 := Lib.hid (Hv1.out.below hB)
  replace Hv3 := Lib.hid (Hv3.out.below hB)
  replace Hv5 := Lib.hid (Hv5.out.below hB)
  replace Hv7 := Lib.hid (Hv7.out.below hB)
  replace Hrel94 := Lib.hid (Pd.step Hrel94.out hB)
  replace Hwl95 := Lib.hid (Pd.step Hwl95.out hB)
  have Hrel101 := Lib.hid (show (Pd.rel _ _).says _ _ from ⟨_, _, _, _, rfl, hV⟩)
  clear hB hV
  go_upto_region 7 with fail
  have hb := RelH.box (n := wc96.heap.size) (relH Hrel101.out) rfl
  have hB := alloc_below wc96 (.cells #[.slice p97 0 q98, .slice p99 0 q100] 34)
  try simp only [List.length_cons, List.length_nil, Nat.zero_add, Nat.reduceAdd] at hb
  generalize wc96.alloc (.cells #[.slice p97 0 q98, .slice p99 0 q100] 34) = w102 at *
  obtain ⟨b11, eb11⟩ : ∃ b, b = wc96.heap.size := ⟨_, rfl⟩
  rw [← eb11] at hb ⊢
  clear eb11
  replace HB := Lib.hid (HB.out.trans (hB.mono HB.out.size))
  replace Hv1 := Lib.hid (Hv1.out.below hB)
  replace Hv3 := Lib.hid (Hv3.out.below hB)
  replace Hv5 := Lib.hid (Hv5.out.below hB)
  replace Hv7 := Lib.hid (Hv7.out.below hB)
  replace Hrel94 := Lib.hid (Pd.step Hrel94.out hB)
  replace Hwl95 := Lib.hid (Pd.step Hwl95.out hB)
  replace Hrel101 := Lib.hid (Pd.step Hrel101.out hB)
  have Hv11 := Lib.hid (hb)
  clear hB hb
  clear Hrel101
  clear Hrel94 Hwl95
  clear Hv11
  refine wp_region_steps w102 (Pds [.const (.int .i64 0), .const (.bool true), .const (.bool true), .rel [[120], [121]] [[i1 1, i1 3]], .strs [[120], [121]], .ints [1, 3], .row ([1, 3].map rowV), .rows [([1, 3].map rowV)], .rel [[120], [121]] [[i1 1, i1 3]], .const (.bool true), .const (.bool true), .const (.bool true), .const (.int .i64 0), .const (.bool true), .const (.bool true), .const (.bool true), .rel [[120]] [[i1 1], [i1 2]], .strs [[120]], .ints [1], .row ([1].map rowV), .ints [2], .row ([2].map rowV), .rows [([1].map rowV), ([2].map rowV)], .rel [[120]] [[i1 1], [i1 2]], .const (.bool true), .const (.bool true), .const (.bool true), .const (.int .i64 0), .const (.bool true), .const (.bool true), .const (.bool true), .const (.pointer (some ⟨b5, 1, none⟩)), .const (.slice p50 0 q51), .const (.int .i64 0), .const (.bool true), .const (.bool true), .const (.bool true), .const (.pointer (some ⟨b5, 0, none⟩)), .const (.slice p48 2 q49), .const (.int .i64 2), .const (.bool true), .const (.bool true), .const (.bool true), .const (.int .i64 0), .const (.bool true), .const (.bool true), .const (.bool true), .rel [[120], [121]] oneR, .rel [[120], [121]] oneR, .const (.bool true), .const (.bool true), .const (.bool true), .const (.int .i64 2), .const (.bool true), .const (.bool true), .const (.bool true), .const (.int .i64 2), .const (.bool true), .const (.bool true), .const (.bool true)]) 60 [(0, 70), (1, 71), (2, 72), (3, 73), (4, 74), (5, 75), (6, 76), (7, 77), (8, 78), (9, 79), (10, 80), (11, 81), (12, 82), (13, 83), (14, 84), (15, 85), (16, 86), (17, 87), (18, 88), (19, 89), (20, 90), (21, 91), (22, 92), (23, 93), (24, 94), (25, 95), (26, 96), (27, 97), (28, 98), (29, 99), (30, 100), (31, 101), (32, 102), (33, 103), (34, 104), (35, 105), (36, 106), (37, 107), (38, 108), (39, 109), (40, 110), (41, 111), (42, 112), (43, 113), (44, 114), (45, 115), (46, 116), (47, 117), (48, 118), (49, 119), (50, 120), (51, 121), (52, 122), (53, 123), (54, 124), (55, 125), (56, 126), (57, 127), (58, 128), (59, 13)] (by kernel_rfl) (by kernel_rfl) (by kernel_rfl) (by kernel_rfl) (by kernel_rfl) Pds.step ⟨?_, ?_, ?_, ?_, ?_, ?_, ?_, ?_, ?_, ?_, ?_, ?_, ?_, ?_, ?_, ?_, ?_, ?_, ?_, ?_, ?_, ?_, ?_, ?_, ?_, ?_, ?_, ?_, ?_, ?_, ?_, ?_, ?_, ?_, ?_, ?_, ?_, ?_, ?_, ?_, ?_, ?_, ?_, ?_, ?_, ?_, ?_, ?_, ?_, ?_, ?_, ?_, ?_, ?_, ?_, ?_, ?_, ?_, ?_, ?_, trivial⟩ (fun vals wz hB hV => ?_)
  · refine StepAt.mk rfl [] (by kernel_rfl) (by kernel_rfl) (fun vals w5 hB hD => ?_)
    clear hD
    simp only [List.foldl_nil]
    try simp only [Act.put, List.getElem_toArray, List.getElem_cons_succ, List.getElem_cons_zero, List.setIfInBounds_toArray, List.set_cons_zero, List.set_cons_succ]
    exact OpStep.val (v := .int .i64 0) (w' := w5) (by go_simp) (by kernel_rfl) (Below.refl _ _) rfl
  · refine StepAt.mk rfl [(0, 70)] (by kernel_rfl) (by kernel_rfl) (fun vals w5 hB hD => ?_)
    have d0 := hD (0, 70) (by simp)
    clear hD
    simp only [List.foldl_cons] at *
    simp only [List.foldl_nil]
    generalize vals 0 = x0 at *
    change x0 = .int .i64 0 at d0
    subst d0
    try simp only [Act.put, List.getElem_toArray, List.getElem_cons_succ, List.getElem_cons_zero, List.setIfInBounds_toArray, List.set_cons_zero, List.set_cons_succ]
    exact OpStep.val (v := .bool true) (w' := w5) (by go_simp) (by kernel_rfl) (Below.refl _ _) rfl
  · refine StepAt.mk rfl [(1, 71)] (by kernel_rfl) (by kernel_rfl) (fun vals w5 hB hD => ?_)
    have d1 := hD (1, 71) (by simp)
    clear hD
    simp only [List.foldl_cons] at *
    simp only [List.foldl_nil]
    generalize vals 1 = x1 at *
    change x1 = .bool true at d1
    subst d1
    try simp only [Act.put, List.getElem_toArray, List.getElem_cons_succ, List.getElem_cons_zero, List.setIfInBounds_toArray, List.set_cons_zero, List.set_cons_succ]
    exact OpStep.val (v := .bool true) (w' := w5) (by go_simp) (by kernel_rfl) (Below.refl _ _) rfl
  · refine StepAt.mk rfl [(2, 72)] (by kernel_rfl) (by kernel_rfl) (fun vals w5 hB hD => ?_)
    have d2 := hD (2, 72) (by simp)
    clear hD
    simp only [List.foldl_cons] at *
    simp only [List.foldl_nil]
    generalize vals 2 = x2 at *
    change x2 = .bool true at d2
    subst d2
    try simp only [Act.put, List.getElem_toArray, List.getElem_cons_succ, List.getElem_cons_zero, List.setIfInBounds_toArray, List.set_cons_zero, List.set_cons_succ]
    obtain ⟨c0, c1⟩ := (Hv1.out.blk.below hB Hv1.out.blk.lt).cells.c2
    simp only [Nat.zero_add] at c1
    exact OpStep.val (v := .agg #[.slice p14 2 q15, .slice p16 1 q17]) (w' := w5) (by go_simp) (by kernel_rfl) (Below.refl _ _) (show (Pd.rel _ _).says _ _ from ⟨_, _, _, _, rfl, Hv1.out.rel.below hB⟩)
  · refine StepAt.mk rfl [(2, 72)] (by kernel_rfl) (by kernel_rfl) (fun vals w5 hB hD => ?_)
    have d2 := hD (2, 72) (by simp)
    clear hD
    simp only [List.foldl_cons] at *
    simp only [List.foldl_nil]
    generalize vals 2 = x2 at *
    change x2 = .bool true at d2
    subst d2
    try simp only [Act.put, List.getElem_toArray, List.getElem_cons_succ, List.getElem_cons_zero, List.setIfInBounds_toArray, List.set_cons_zero, List.set_cons_succ]
    exact OpStep.val (v := .slice (some ⟨w5.heap.size, 0, none⟩) 2 2) (w' := w5.alloc (.cells #[.string ⟨#[120]⟩, .string ⟨#[121]⟩] 9)) (by go_simp) (by kernel_rfl) (alloc_below _ _) (Pd.strsLit w5 [[120], [121]] (by decide) rfl)
  · refine StepAt.mk rfl [(2, 72)] (by kernel_rfl) (by kernel_rfl) (fun vals w5 hB hD => ?_)
    have d2 := hD (2, 72) (by simp)
    clear hD
    simp only [List.foldl_cons] at *
    simp only [List.foldl_nil]
    generalize vals 2 = x2 at *
    change x2 = .bool true at d2
    subst d2
    try simp only [Act.put, List.getElem_toArray, List.getElem_cons_succ, List.getElem_cons_zero, List.setIfInBounds_toArray, List.set_cons_zero, List.set_cons_succ]
    exact OpStep.val (v := .slice (some ⟨w5.heap.size, 0, none⟩) 2 2) (w' := w5.alloc (.cells #[.int .i64 1, .int .i64 3] 2)) (by go_simp) (by kernel_rfl) (alloc_below _ _) (Pd.intsLit w5 [1, 3] (by decide) rfl)
  · refine StepAt.mk rfl [(2, 72), (5, 75)] (by kernel_rfl) (by kernel_rfl) (fun vals w5 hB hD => ?_)
    have d2 := hD (2, 72) (by simp)
    have d5 := hD (5, 75) (by simp)
    clear hD
    simp only [List.foldl_cons] at *
    simp only [List.foldl_nil]
    generalize vals 2 = x2 at *
    change x2 = .bool true at d2
    subst d2
    generalize vals 5 = x5 at *
    change (Pd.ints [1, 3]).says x5 w5 at d5
    obtain ⟨p5, q5, rfl⟩ := Pd.form_ints d5
    try simp only [Act.put, List.getElem_toArray, List.getElem_cons_succ, List.getElem_cons_zero, List.setIfInBounds_toArray, List.set_cons_zero, List.set_cons_succ]
    refine OpStep.call (f := 51) (args := #[.slice p5 2 q5]) (by kernel_rfl) (by kernel_rfl) ?_
    exact row_P d5 (by decide) (by decide) _ (fun w6 v hB6 hV => ⟨v, rfl, hB6, hV⟩)
  · refine StepAt.mk rfl [(2, 72), (6, 76)] (by kernel_rfl) (by kernel_rfl) (fun vals w5 hB hD => ?_)
    have d2 := hD (2, 72) (by simp)
    have d6 := hD (6, 76) (by simp)
    clear hD
    simp only [List.foldl_cons] at *
    simp only [List.foldl_nil]
    generalize vals 2 = x2 at *
    change x2 = .bool true at d2
    subst d2
    generalize vals 6 = x6 at *
    change (Pd.row ([1, 3].map rowV)).says x6 w5 at d6
    obtain ⟨p6, q6, rfl⟩ := Pd.form_row d6
    try simp only [Act.put, List.getElem_toArray, List.getElem_cons_succ, List.getElem_cons_zero, List.setIfInBounds_toArray, List.set_cons_zero, List.set_cons_succ]
    exact OpStep.val (v := .slice (some ⟨w5.heap.size, 0, none⟩) 1 1) (w' := w5.alloc (.cells #[.slice p6 2 q6] 42)) (by go_simp) (by kernel_rfl) (alloc_below _ _) (Pd.rowsLit w5 [.slice p6 2 q6] [([1, 3].map rowV)] ⟨d6, trivial⟩ (by decide) rfl)
  · refine StepAt.mk rfl [(2, 72), (4, 74), (7, 77)] (by kernel_rfl) (by kernel_rfl) (fun vals w5 hB hD => ?_)
    have d2 := hD (2, 72) (by simp)
    have d4 := hD (4, 74) (by simp)
    have d7 := hD (7, 77) (by simp)
    clear hD
    simp only [List.foldl_cons] at *
    simp only [List.foldl_nil]
    generalize vals 2 = x2 at *
    change x2 = .bool true at d2
    subst d2
    generalize vals 4 = x4 at *
    change (Pd.strs [[120], [121]]).says x4 w5 at d4
    obtain ⟨p4, q4, rfl⟩ := Pd.form_strs d4
    generalize vals 7 = x7 at *
    change (Pd.rows [([1, 3].map rowV)]).says x7 w5 at d7
    obtain ⟨p7, q7, rfl⟩ := Pd.form_rows d7
    try simp only [Act.put, List.getElem_toArray, List.getElem_cons_succ, List.getElem_cons_zero, List.setIfInBounds_toArray, List.set_cons_zero, List.set_cons_succ]
    refine OpStep.call (f := 50) (args := #[.slice p4 2 q4, .slice p7 1 q7]) (by kernel_rfl) (by kernel_rfl) ?_
    exact rel_P d4 d7 (by decide) (by decide) (co := [[120], [121]]) (lo := [[i1 1, i1 3]]) (by decide +kernel) (by decide +kernel) _ (fun w6 v hB6 hV => ⟨v, rfl, hB6, hV⟩)
  · refine StepAt.mk rfl [(2, 72), (3, 73), (8, 78)] (by kernel_rfl) (by kernel_rfl) (fun vals w5 hB hD => ?_)
    have d2 := hD (2, 72) (by simp)
    have d3 := hD (3, 73) (by simp)
    have d8 := hD (8, 78) (by simp)
    clear hD
    simp only [List.foldl_cons] at *
    simp only [List.foldl_nil]
    generalize vals 2 = x2 at *
    change x2 = .bool true at d2
    subst d2
    generalize vals 3 = x3 at *
    change (Pd.rel [[120], [121]] [[i1 1, i1 3]]).says x3 w5 at d3
    obtain ⟨pa3, qa3, pb3, qb3, rfl, d3⟩ := d3
    generalize vals 8 = x8 at *
    change (Pd.rel [[120], [121]] [[i1 1, i1 3]]).says x8 w5 at d8
    obtain ⟨pa8, qa8, pb8, qb8, rfl, d8⟩ := d8
    try simp only [Act.put, List.getElem_toArray, List.getElem_cons_succ, List.getElem_cons_zero, List.setIfInBounds_toArray, List.set_cons_zero, List.set_cons_succ]
    refine OpStep.call (f := 29) (args := #[.agg #[.slice pa3 ([[120], [121]] : List S).length qa3, .slice pb3 ([[i1 1, i1 3]] : List (List V)).length qb3], .agg #[.slice pa8 ([[120], [121]] : List S).length qa8, .slice pb8 ([[i1 1, i1 3]] : List (List V)).length qb8]]) (by kernel_rfl) (by kernel_rfl) ?_
    exact Same_K d3 d8 (by decide +kernel) (by decide +kernel) (by decide +kernel) _ (fun w6 hB6 => ⟨_, rfl, hB6, rfl⟩)
  · refine StepAt.mk rfl [(2, 72), (9, 79)] (by kernel_rfl) (by kernel_rfl) (fun vals w5 hB hD => ?_)
    have d2 := hD (2, 72) (by simp)
    have d9 := hD (9, 79) (by simp)
    clear hD
    simp only [List.foldl_cons] at *
    simp only [List.foldl_nil]
    generalize vals 2 = x2 at *
    change x2 = .bool true at d2
    subst d2
    generalize vals 9 = x9 at *
    change x9 = .bool true at d9
    subst d9
    try simp only [Act.put, List.getElem_toArray, List.getElem_cons_succ, List.getElem_cons_zero, List.setIfInBounds_toArray, List.set_cons_zero, List.set_cons_succ]
    exact OpStep.val (v := .bool true) (w' := w5) (by go_simp) (by kernel_rfl) (Below.refl _ _) rfl
  · refine StepAt.mk rfl [(10, 80)] (by kernel_rfl) (by kernel_rfl) (fun vals w5 hB hD => ?_)
    have d10 := hD (10, 80) (by simp)
    clear hD
    simp only [List.foldl_cons] at *
    simp only [List.foldl_nil]
    generalize vals 10 = x10 at *
    change x10 = .bool true at d10
    subst d10
    try simp only [Act.put, List.getElem_toArray, List.getElem_cons_succ, List.getElem_cons_zero, List.setIfInBounds_toArray, List.set_cons_zero, List.set_cons_succ]
    exact OpStep.val (v := .bool true) (w' := w5) (by go_simp) (by kernel_rfl) (Below.refl _ _) rfl
  · refine StepAt.mk rfl [(11, 81)] (by kernel_rfl) (by kernel_rfl) (fun vals w5 hB hD => ?_)
    have d11 := hD (11, 81) (by simp)
    clear hD
    simp only [List.foldl_cons] at *
    simp only [List.foldl_nil]
    generalize vals 11 = x11 at *
    change x11 = .bool true at d11
    subst d11
    try simp only [Act.put, List.getElem_toArray, List.getElem_cons_succ, List.getElem_cons_zero, List.setIfInBounds_toArray, List.set_cons_zero, List.set_cons_succ]
    exact OpStep.val (v := .int .i64 0) (w' := w5) (by go_simp) (by kernel_rfl) (Below.refl _ _) rfl
  · refine StepAt.mk rfl [(11, 81), (12, 82)] (by kernel_rfl) (by kernel_rfl) (fun vals w5 hB hD => ?_)
    have d11 := hD (11, 81) (by simp)
    have d12 := hD (12, 82) (by simp)
    clear hD
    simp only [List.foldl_cons] at *
    simp only [List.foldl_nil]
    generalize vals 11 = x11 at *
    change x11 = .bool true at d11
    subst d11
    generalize vals 12 = x12 at *
    change x12 = .int .i64 0 at d12
    subst d12
    try simp only [Act.put, List.getElem_toArray, List.getElem_cons_succ, List.getElem_cons_zero, List.setIfInBounds_toArray, List.set_cons_zero, List.set_cons_succ]
    exact OpStep.val (v := .bool true) (w' := w5) (by go_simp) (by kernel_rfl) (Below.refl _ _) rfl
  · refine StepAt.mk rfl [(11, 81), (13, 83)] (by kernel_rfl) (by kernel_rfl) (fun vals w5 hB hD => ?_)
    have d11 := hD (11, 81) (by simp)
    have d13 := hD (13, 83) (by simp)
    clear hD
    simp only [List.foldl_cons] at *
    simp only [List.foldl_nil]
    generalize vals 11 = x11 at *
    change x11 = .bool true at d11
    subst d11
    generalize vals 13 = x13 at *
    change x13 = .bool true at d13
    subst d13
    try simp only [Act.put, List.getElem_toArray, List.getElem_cons_succ, List.getElem_cons_zero, List.setIfInBounds_toArray, List.set_cons_zero, List.set_cons_succ]
    exact OpStep.val (v := .bool true) (w' := w5) (by go_simp) (by kernel_rfl) (Below.refl _ _) rfl
  · refine StepAt.mk rfl [(14, 84)] (by kernel_rfl) (by kernel_rfl) (fun vals w5 hB hD => ?_)
    have d14 := hD (14, 84) (by simp)
    clear hD
    simp only [List.foldl_cons] at *
    simp only [List.foldl_nil]
    generalize vals 14 = x14 at *
    change x14 = .bool true at d14
    subst d14
    try simp only [Act.put, List.getElem_toArray, List.getElem_cons_succ, List.getElem_cons_zero, List.setIfInBounds_toArray, List.set_cons_zero, List.set_cons_succ]
    exact OpStep.val (v := .bool true) (w' := w5) (by go_simp) (by kernel_rfl) (Below.refl _ _) rfl
  · refine StepAt.mk rfl [(15, 85)] (by kernel_rfl) (by kernel_rfl) (fun vals w5 hB hD => ?_)
    have d15 := hD (15, 85) (by simp)
    clear hD
    simp only [List.foldl_cons] at *
    simp only [List.foldl_nil]
    generalize vals 15 = x15 at *
    change x15 = .bool true at d15
    subst d15
    try simp only [Act.put, List.getElem_toArray, List.getElem_cons_succ, List.getElem_cons_zero, List.setIfInBounds_toArray, List.set_cons_zero, List.set_cons_succ]
    obtain ⟨c0, c1⟩ := (Hv3.out.blk.below hB Hv3.out.blk.lt).cells.c2
    simp only [Nat.zero_add] at c1
    exact OpStep.val (v := .agg #[.slice p28 1 q29, .slice p30 2 q31]) (w' := w5) (by go_simp) (by kernel_rfl) (Below.refl _ _) (show (Pd.rel _ _).says _ _ from ⟨_, _, _, _, rfl, Hv3.out.rel.below hB⟩)
  · refine StepAt.mk rfl [(15, 85)] (by kernel_rfl) (by kernel_rfl) (fun vals w5 hB hD => ?_)
    have d15 := hD (15, 85) (by simp)
    clear hD
    simp only [List.foldl_cons] at *
    simp only [List.foldl_nil]
    generalize vals 15 = x15 at *
    change x15 = .bool true at d15
    subst d15
    try simp only [Act.put, List.getElem_toArray, List.getElem_cons_succ, List.getElem_cons_zero, List.setIfInBounds_toArray, List.set_cons_zero, List.set_cons_succ]
    exact OpStep.val (v := .slice (some ⟨w5.heap.size, 0, none⟩) 1 1) (w' := w5.alloc (.cells #[.string ⟨#[120]⟩] 9)) (by go_simp) (by kernel_rfl) (alloc_below _ _) (Pd.strsLit w5 [[120]] (by decide) rfl)
  · refine StepAt.mk rfl [(15, 85)] (by kernel_rfl) (by kernel_rfl) (fun vals w5 hB hD => ?_)
    have d15 := hD (15, 85) (by simp)
    clear hD
    simp only [List.foldl_cons] at *
    simp only [List.foldl_nil]
    generalize vals 15 = x15 at *
    change x15 = .bool true at d15
    subst d15
    try simp only [Act.put, List.getElem_toArray, List.getElem_cons_succ, List.getElem_cons_zero, List.setIfInBounds_toArray, List.set_cons_zero, List.set_cons_succ]
    exact OpStep.val (v := .slice (some ⟨w5.heap.size, 0, none⟩) 1 1) (w' := w5.alloc (.cells #[.int .i64 1] 2)) (by go_simp) (by kernel_rfl) (alloc_below _ _) (Pd.intsLit w5 [1] (by decide) rfl)
  · refine StepAt.mk rfl [(15, 85), (18, 88)] (by kernel_rfl) (by kernel_rfl) (fun vals w5 hB hD => ?_)
    have d15 := hD (15, 85) (by simp)
    have d18 := hD (18, 88) (by simp)
    clear hD
    simp only [List.foldl_cons] at *
    simp only [List.foldl_nil]
    generalize vals 15 = x15 at *
    change x15 = .bool true at d15
    subst d15
    generalize vals 18 = x18 at *
    change (Pd.ints [1]).says x18 w5 at d18
    obtain ⟨p18, q18, rfl⟩ := Pd.form_ints d18
    try simp only [Act.put, List.getElem_toArray, List.getElem_cons_succ, List.getElem_cons_zero, List.setIfInBounds_toArray, List.set_cons_zero, List.set_cons_succ]
    refine OpStep.call (f := 51) (args := #[.slice p18 1 q18]) (by kernel_rfl) (by kernel_rfl) ?_
    exact row_P d18 (by decide) (by decide) _ (fun w6 v hB6 hV => ⟨v, rfl, hB6, hV⟩)
  · refine StepAt.mk rfl [(15, 85)] (by kernel_rfl) (by kernel_rfl) (fun vals w5 hB hD => ?_)
    have d15 := hD (15, 85) (by simp)
    clear hD
    simp only [List.foldl_cons] at *
    simp only [List.foldl_nil]
    generalize vals 15 = x15 at *
    change x15 = .bool true at d15
    subst d15
    try simp only [Act.put, List.getElem_toArray, List.getElem_cons_succ, List.getElem_cons_zero, List.setIfInBounds_toArray, List.set_cons_zero, List.set_cons_succ]
    exact OpStep.val (v := .slice (some ⟨w5.heap.size, 0, none⟩) 1 1) (w' := w5.alloc (.cells #[.int .i64 2] 2)) (by go_simp) (by kernel_rfl) (alloc_below _ _) (Pd.intsLit w5 [2] (by decide) rfl)
  · refine StepAt.mk rfl [(15, 85), (20, 90)] (by kernel_rfl) (by kernel_rfl) (fun vals w5 hB hD => ?_)
    have d15 := hD (15, 85) (by simp)
    have d20 := hD (20, 90) (by simp)
    clear hD
    simp only [List.foldl_cons] at *
    simp only [List.foldl_nil]
    generalize vals 15 = x15 at *
    change x15 = .bool true at d15
    subst d15
    generalize vals 20 = x20 at *
    change (Pd.ints [2]).says x20 w5 at d20
    obtain ⟨p20, q20, rfl⟩ := Pd.form_ints d20
    try simp only [Act.put, List.getElem_toArray, List.getElem_cons_succ, List.getElem_cons_zero, List.setIfInBounds_toArray, List.set_cons_zero, List.set_cons_succ]
    refine OpStep.call (f := 51) (args := #[.slice p20 1 q20]) (by kernel_rfl) (by kernel_rfl) ?_
    exact row_P d20 (by decide) (by decide) _ (fun w6 v hB6 hV => ⟨v, rfl, hB6, hV⟩)
  · refine StepAt.mk rfl [(15, 85), (19, 89), (21, 91)] (by kernel_rfl) (by kernel_rfl) (fun vals w5 hB hD => ?_)
    have d15 := hD (15, 85) (by simp)
    have d19 := hD (19, 89) (by simp)
    have d21 := hD (21, 91) (by simp)
    clear hD
    simp only [List.foldl_cons] at *
    simp only [List.foldl_nil]
    generalize vals 15 = x15 at *
    change x15 = .bool true at d15
    subst d15
    generalize vals 19 = x19 at *
    change (Pd.row ([1].map rowV)).says x19 w5 at d19
    obtain ⟨p19, q19, rfl⟩ := Pd.form_row d19
    generalize vals 21 = x21 at *
    change (Pd.row ([2].map rowV)).says x21 w5 at d21
    obtain ⟨p21, q21, rfl⟩ := Pd.form_row d21
    try simp only [Act.put, List.getElem_toArray, List.getElem_cons_succ, List.getElem_cons_zero, List.setIfInBounds_toArray, List.set_cons_zero, List.set_cons_succ]
    exact OpStep.val (v := .slice (some ⟨w5.heap.size, 0, none⟩) 2 2) (w' := w5.alloc (.cells #[.slice p19 1 q19, .slice p21 1 q21] 42)) (by go_simp) (by kernel_rfl) (alloc_below _ _) (Pd.rowsLit w5 [.slice p19 1 q19, .slice p21 1 q21] [([1].map rowV), ([2].map rowV)] ⟨d19, d21, trivial⟩ (by decide) rfl)
  · refine StepAt.mk rfl [(15, 85), (17, 87), (22, 92)] (by kernel_rfl) (by kernel_rfl) (fun vals w5 hB hD => ?_)
    have d15 := hD (15, 85) (by simp)
    have d17 := hD (17, 87) (by simp)
    have d22 := hD (22, 92) (by simp)
    clear hD
    simp only [List.foldl_cons] at *
    simp only [List.foldl_nil]
    generalize vals 15 = x15 at *
    change x15 = .bool true at d15
    subst d15
    generalize vals 17 = x17 at *
    change (Pd.strs [[120]]).says x17 w5 at d17
    obtain ⟨p17, q17, rfl⟩ := Pd.form_strs d17
    generalize vals 22 = x22 at *
    change (Pd.rows [([1].map rowV), ([2].map rowV)]).says x22 w5 at d22
    obtain ⟨p22, q22, rfl⟩ := Pd.form_rows d22
    try simp only [Act.put, List.getElem_toArray, List.getElem_cons_succ, List.getElem_cons_zero, List.setIfInBounds_toArray, List.set_cons_zero, List.set_cons_succ]
    refine OpStep.call (f := 50) (args := #[.slice p17 1 q17, .slice p22 2 q22]) (by kernel_rfl) (by kernel_rfl) ?_
    exact rel_P d17 d22 (by decide) (by decide) (co := [[120]]) (lo := [[i1 1], [i1 2]]) (by decide +kernel) (by decide +kernel) _ (fun w6 v hB6 hV => ⟨v, rfl, hB6, hV⟩)
  · refine StepAt.mk rfl [(15, 85), (16, 86), (23, 93)] (by kernel_rfl) (by kernel_rfl) (fun vals w5 hB hD => ?_)
    have d15 := hD (15, 85) (by simp)
    have d16 := hD (16, 86) (by simp)
    have d23 := hD (23, 93) (by simp)
    clear hD
    simp only [List.foldl_cons] at *
    simp only [List.foldl_nil]
    generalize vals 15 = x15 at *
    change x15 = .bool true at d15
    subst d15
    generalize vals 16 = x16 at *
    change (Pd.rel [[120]] [[i1 1], [i1 2]]).says x16 w5 at d16
    obtain ⟨pa16, qa16, pb16, qb16, rfl, d16⟩ := d16
    generalize vals 23 = x23 at *
    change (Pd.rel [[120]] [[i1 1], [i1 2]]).says x23 w5 at d23
    obtain ⟨pa23, qa23, pb23, qb23, rfl, d23⟩ := d23
    try simp only [Act.put, List.getElem_toArray, List.getElem_cons_succ, List.getElem_cons_zero, List.setIfInBounds_toArray, List.set_cons_zero, List.set_cons_succ]
    refine OpStep.call (f := 29) (args := #[.agg #[.slice pa16 ([[120]] : List S).length qa16, .slice pb16 ([[i1 1], [i1 2]] : List (List V)).length qb16], .agg #[.slice pa23 ([[120]] : List S).length qa23, .slice pb23 ([[i1 1], [i1 2]] : List (List V)).length qb23]]) (by kernel_rfl) (by kernel_rfl) ?_
    exact Same_K d16 d23 (by decide +kernel) (by decide +kernel) (by decide +kernel) _ (fun w6 hB6 => ⟨_, rfl, hB6, rfl⟩)
  · refine StepAt.mk rfl [(15, 85), (24, 94)] (by kernel_rfl) (by kernel_rfl) (fun vals w5 hB hD => ?_)
    have d15 := hD (15, 85) (by simp)
    have d24 := hD (24, 94) (by simp)
    clear hD
    simp only [List.foldl_cons] at *
    simp only [List.foldl_nil]
    generalize vals 15 = x15 at *
    change x15 = .bool true at d15
    subst d15
    generalize vals 24 = x24 at *
    change x24 = .bool true at d24
    subst d24
    try simp only [Act.put, List.getElem_toArray, List.getElem_cons_succ, List.getElem_cons_zero, List.setIfInBounds_toArray, List.set_cons_zero, List.set_cons_succ]
    exact OpStep.val (v := .bool true) (w' := w5) (by go_simp) (by kernel_rfl) (Below.refl _ _) rfl
  · refine StepAt.mk rfl [(25, 95)] (by kernel_rfl) (by kernel_rfl) (fun vals w5 hB hD => ?_)
    have d25 := hD (25, 95) (by simp)
    clear hD
    simp only [List.foldl_cons] at *
    simp only [List.foldl_nil]
    generalize vals 25 = x25 at *
    change x25 = .bool true at d25
    subst d25
    try simp only [Act.put, List.getElem_toArray, List.getElem_cons_succ, List.getElem_cons_zero, List.setIfInBounds_toArray, List.set_cons_zero, List.set_cons_succ]
    exact OpStep.val (v := .bool true) (w' := w5) (by go_simp) (by kernel_rfl) (Below.refl _ _) rfl
  · refine StepAt.mk rfl [(26, 96)] (by kernel_rfl) (by kernel_rfl) (fun vals w5 hB hD => ?_)
    have d26 := hD (26, 96) (by simp)
    clear hD
    simp only [List.foldl_cons] at *
    simp only [List.foldl_nil]
    generalize vals 26 = x26 at *
    change x26 = .bool true at d26
    subst d26
    try simp only [Act.put, List.getElem_toArray, List.getElem_cons_succ, List.getElem_cons_zero, List.setIfInBounds_toArray, List.set_cons_zero, List.set_cons_succ]
    exact OpStep.val (v := .int .i64 0) (w' := w5) (by go_simp) (by kernel_rfl) (Below.refl _ _) rfl
  · refine StepAt.mk rfl [(26, 96), (27, 97)] (by kernel_rfl) (by kernel_rfl) (fun vals w5 hB hD => ?_)
    have d26 := hD (26, 96) (by simp)
    have d27 := hD (27, 97) (by simp)
    clear hD
    simp only [List.foldl_cons] at *
    simp only [List.foldl_nil]
    generalize vals 26 = x26 at *
    change x26 = .bool true at d26
    subst d26
    generalize vals 27 = x27 at *
    change x27 = .int .i64 0 at d27
    subst d27
    try simp only [Act.put, List.getElem_toArray, List.getElem_cons_succ, List.getElem_cons_zero, List.setIfInBounds_toArray, List.set_cons_zero, List.set_cons_succ]
    exact OpStep.val (v := .bool true) (w' := w5) (by go_simp) (by kernel_rfl) (Below.refl _ _) rfl
  · refine StepAt.mk rfl [(26, 96), (28, 98)] (by kernel_rfl) (by kernel_rfl) (fun vals w5 hB hD => ?_)
    have d26 := hD (26, 96) (by simp)
    have d28 := hD (28, 98) (by simp)
    clear hD
    simp only [List.foldl_cons] at *
    simp only [List.foldl_nil]
    generalize vals 26 = x26 at *
    change x26 = .bool true at d26
    subst d26
    generalize vals 28 = x28 at *
    change x28 = .bool true at d28
    subst d28
    try simp only [Act.put, List.getElem_toArray, List.getElem_cons_succ, List.getElem_cons_zero, List.setIfInBounds_toArray, List.set_cons_zero, List.set_cons_succ]
    exact OpStep.val (v := .bool true) (w' := w5) (by go_simp) (by kernel_rfl) (Below.refl _ _) rfl
  · refine StepAt.mk rfl [(29, 99)] (by kernel_rfl) (by kernel_rfl) (fun vals w5 hB hD => ?_)
    have d29 := hD (29, 99) (by simp)
    clear hD
    simp only [List.foldl_cons] at *
    simp only [List.foldl_nil]
    generalize vals 29 = x29 at *
    change x29 = .bool true at d29
    subst d29
    try simp only [Act.put, List.getElem_toArray, List.getElem_cons_succ, List.getElem_cons_zero, List.setIfInBounds_toArray, List.set_cons_zero, List.set_cons_succ]
    exact OpStep.val (v := .bool true) (w' := w5) (by go_simp) (by kernel_rfl) (Below.refl _ _) rfl
  · refine StepAt.mk rfl [(30, 100)] (by kernel_rfl) (by kernel_rfl) (fun vals w5 hB hD => ?_)
    have d30 := hD (30, 100) (by simp)
    clear hD
    simp only [List.foldl_cons] at *
    simp only [List.foldl_nil]
    generalize vals 30 = x30 at *
    change x30 = .bool true at d30
    subst d30
    try simp only [Act.put, List.getElem_toArray, List.getElem_cons_succ, List.getElem_cons_zero, List.setIfInBounds_toArray, List.set_cons_zero, List.set_cons_succ]
    exact OpStep.val (v := .pointer (some ⟨b5, 1, none⟩)) (w' := w5) (by go_simp) (by kernel_rfl) (Below.refl _ _) rfl
  · refine StepAt.mk rfl [(30, 100), (31, 101)] (by kernel_rfl) (by kernel_rfl) (fun vals w5 hB hD => ?_)
    have d30 := hD (30, 100) (by simp)
    have d31 := hD (31, 101) (by simp)
    clear hD
    simp only [List.foldl_cons] at *
    simp only [List.foldl_nil]
    generalize vals 30 = x30 at *
    change x30 = .bool true at d30
    subst d30
    generalize vals 31 = x31 at *
    change x31 = .pointer (some ⟨b5, 1, none⟩) at d31
    subst d31
    try simp only [Act.put, List.getElem_toArray, List.getElem_cons_succ, List.getElem_cons_zero, List.setIfInBounds_toArray, List.set_cons_zero, List.set_cons_succ]
    obtain ⟨c0, c1⟩ := (Hv5.out.blk.below hB Hv5.out.blk.lt).cells.c2
    simp only [Nat.zero_add] at c1
    exact OpStep.val (v := .slice p50 0 q51) (w' := w5) (by go_simp) (by kernel_rfl) (Below.refl _ _) rfl
  · refine StepAt.mk rfl [(30, 100), (32, 102)] (by kernel_rfl) (by kernel_rfl) (fun vals w5 hB hD => ?_)
    have d30 := hD (30, 100) (by simp)
    have d32 := hD (32, 102) (by simp)
    clear hD
    simp only [List.foldl_cons] at *
    simp only [List.foldl_nil]
    generalize vals 30 = x30 at *
    change x30 = .bool true at d30
    subst d30
    generalize vals 32 = x32 at *
    change x32 = .slice p50 0 q51 at d32
    subst d32
    try simp only [Act.put, List.getElem_toArray, List.getElem_cons_succ, List.getElem_cons_zero, List.setIfInBounds_toArray, List.set_cons_zero, List.set_cons_succ]
    exact OpStep.val (v := .int .i64 0) (w' := w5) (by go_simp) (by kernel_rfl) (Below.refl _ _) rfl
  · refine StepAt.mk rfl [(30, 100), (33, 103)] (by kernel_rfl) (by kernel_rfl) (fun vals w5 hB hD => ?_)
    have d30 := hD (30, 100) (by simp)
    have d33 := hD (33, 103) (by simp)
    clear hD
    simp only [List.foldl_cons] at *
    simp only [List.foldl_nil]
    generalize vals 30 = x30 at *
    change x30 = .bool true at d30
    subst d30
    generalize vals 33 = x33 at *
    change x33 = .int .i64 0 at d33
    subst d33
    try simp only [Act.put, List.getElem_toArray, List.getElem_cons_succ, List.getElem_cons_zero, List.setIfInBounds_toArray, List.set_cons_zero, List.set_cons_succ]
    exact OpStep.val (v := .bool true) (w' := w5) (by go_simp) (by kernel_rfl) (Below.refl _ _) rfl
  · refine StepAt.mk rfl [(30, 100), (34, 104)] (by kernel_rfl) (by kernel_rfl) (fun vals w5 hB hD => ?_)
    have d30 := hD (30, 100) (by simp)
    have d34 := hD (34, 104) (by simp)
    clear hD
    simp only [List.foldl_cons] at *
    simp only [List.foldl_nil]
    generalize vals 30 = x30 at *
    change x30 = .bool true at d30
    subst d30
    generalize vals 34 = x34 at *
    change x34 = .bool true at d34
    subst d34
    try simp only [Act.put, List.getElem_toArray, List.getElem_cons_succ, List.getElem_cons_zero, List.setIfInBounds_toArray, List.set_cons_zero, List.set_cons_succ]
    exact OpStep.val (v := .bool true) (w' := w5) (by go_simp) (by kernel_rfl) (Below.refl _ _) rfl
  · refine StepAt.mk rfl [(35, 105)] (by kernel_rfl) (by kernel_rfl) (fun vals w5 hB hD => ?_)
    have d35 := hD (35, 105) (by simp)
    clear hD
    simp only [List.foldl_cons] at *
    simp only [List.foldl_nil]
    generalize vals 35 = x35 at *
    change x35 = .bool true at d35
    subst d35
    try simp only [Act.put, List.getElem_toArray, List.getElem_cons_succ, List.getElem_cons_zero, List.setIfInBounds_toArray, List.set_cons_zero, List.set_cons_succ]
    exact OpStep.val (v := .bool true) (w' := w5) (by go_simp) (by kernel_rfl) (Below.refl _ _) rfl
  · refine StepAt.mk rfl [(36, 106)] (by kernel_rfl) (by kernel_rfl) (fun vals w5 hB hD => ?_)
    have d36 := hD (36, 106) (by simp)
    clear hD
    simp only [List.foldl_cons] at *
    simp only [List.foldl_nil]
    generalize vals 36 = x36 at *
    change x36 = .bool true at d36
    subst d36
    try simp only [Act.put, List.getElem_toArray, List.getElem_cons_succ, List.getElem_cons_zero, List.setIfInBounds_toArray, List.set_cons_zero, List.set_cons_succ]
    exact OpStep.val (v := .pointer (some ⟨b5, 0, none⟩)) (w' := w5) (by go_simp) (by kernel_rfl) (Below.refl _ _) rfl
  · refine StepAt.mk rfl [(36, 106), (37, 107)] (by kernel_rfl) (by kernel_rfl) (fun vals w5 hB hD => ?_)
    have d36 := hD (36, 106) (by simp)
    have d37 := hD (37, 107) (by simp)
    clear hD
    simp only [List.foldl_cons] at *
    simp only [List.foldl_nil]
    generalize vals 36 = x36 at *
    change x36 = .bool true at d36
    subst d36
    generalize vals 37 = x37 at *
    change x37 = .pointer (some ⟨b5, 0, none⟩) at d37
    subst d37
    try simp only [Act.put, List.getElem_toArray, List.getElem_cons_succ, List.getElem_cons_zero, List.setIfInBounds_toArray, List.set_cons_zero, List.set_cons_succ]
    obtain ⟨c0, c1⟩ := (Hv5.out.blk.below hB Hv5.out.blk.lt).cells.c2
    simp only [Nat.zero_add] at c1
    exact OpStep.val (v := .slice p48 2 q49) (w' := w5) (by go_simp) (by kernel_rfl) (Below.refl _ _) rfl
  · refine StepAt.mk rfl [(36, 106), (38, 108)] (by kernel_rfl) (by kernel_rfl) (fun vals w5 hB hD => ?_)
    have d36 := hD (36, 106) (by simp)
    have d38 := hD (38, 108) (by simp)
    clear hD
    simp only [List.foldl_cons] at *
    simp only [List.foldl_nil]
    generalize vals 36 = x36 at *
    change x36 = .bool true at d36
    subst d36
    generalize vals 38 = x38 at *
    change x38 = .slice p48 2 q49 at d38
    subst d38
    try simp only [Act.put, List.getElem_toArray, List.getElem_cons_succ, List.getElem_cons_zero, List.setIfInBounds_toArray, List.set_cons_zero, List.set_cons_succ]
    exact OpStep.val (v := .int .i64 2) (w' := w5) (by go_simp) (by kernel_rfl) (Below.refl _ _) rfl
  · refine StepAt.mk rfl [(36, 106), (39, 109)] (by kernel_rfl) (by kernel_rfl) (fun vals w5 hB hD => ?_)
    have d36 := hD (36, 106) (by simp)
    have d39 := hD (39, 109) (by simp)
    clear hD
    simp only [List.foldl_cons] at *
    simp only [List.foldl_nil]
    generalize vals 36 = x36 at *
    change x36 = .bool true at d36
    subst d36
    generalize vals 39 = x39 at *
    change x39 = .int .i64 2 at d39
    subst d39
    try simp only [Act.put, List.getElem_toArray, List.getElem_cons_succ, List.getElem_cons_zero, List.setIfInBounds_toArray, List.set_cons_zero, List.set_cons_succ]
    exact OpStep.val (v := .bool true) (w' := w5) (by go_simp) (by kernel_rfl) (Below.refl _ _) rfl
  · refine StepAt.mk rfl [(36, 106), (40, 110)] (by kernel_rfl) (by kernel_rfl) (fun vals w5 hB hD => ?_)
    have d36 := hD (36, 106) (by simp)
    have d40 := hD (40, 110) (by simp)
    clear hD
    simp only [List.foldl_cons] at *
    simp only [List.foldl_nil]
    generalize vals 36 = x36 at *
    change x36 = .bool true at d36
    subst d36
    generalize vals 40 = x40 at *
    change x40 = .bool true at d40
    subst d40
    try simp only [Act.put, List.getElem_toArray, List.getElem_cons_succ, List.getElem_cons_zero, List.setIfInBounds_toArray, List.set_cons_zero, List.set_cons_succ]
    exact OpStep.val (v := .bool true) (w' := w5) (by go_simp) (by kernel_rfl) (Below.refl _ _) rfl
  · refine StepAt.mk rfl [(41, 111)] (by kernel_rfl) (by kernel_rfl) (fun vals w5 hB hD => ?_)
    have d41 := hD (41, 111) (by simp)
    clear hD
    simp only [List.foldl_cons] at *
    simp only [List.foldl_nil]
    generalize vals 41 = x41 at *
    change x41 = .bool true at d41
    subst d41
    try simp only [Act.put, List.getElem_toArray, List.getElem_cons_succ, List.getElem_cons_zero, List.setIfInBounds_toArray, List.set_cons_zero, List.set_cons_succ]
    exact OpStep.val (v := .bool true) (w' := w5) (by go_simp) (by kernel_rfl) (Below.refl _ _) rfl
  · refine StepAt.mk rfl [(42, 112)] (by kernel_rfl) (by kernel_rfl) (fun vals w5 hB hD => ?_)
    have d42 := hD (42, 112) (by simp)
    clear hD
    simp only [List.foldl_cons] at *
    simp only [List.foldl_nil]
    generalize vals 42 = x42 at *
    change x42 = .bool true at d42
    subst d42
    try simp only [Act.put, List.getElem_toArray, List.getElem_cons_succ, List.getElem_cons_zero, List.setIfInBounds_toArray, List.set_cons_zero, List.set_cons_succ]
    exact OpStep.val (v := .int .i64 0) (w' := w5) (by go_simp) (by kernel_rfl) (Below.refl _ _) rfl
  · refine StepAt.mk rfl [(42, 112), (43, 113)] (by kernel_rfl) (by kernel_rfl) (fun vals w5 hB hD => ?_)
    have d42 := hD (42, 112) (by simp)
    have d43 := hD (43, 113) (by simp)
    clear hD
    simp only [List.foldl_cons] at *
    simp only [List.foldl_nil]
    generalize vals 42 = x42 at *
    change x42 = .bool true at d42
    subst d42
    generalize vals 43 = x43 at *
    change x43 = .int .i64 0 at d43
    subst d43
    try simp only [Act.put, List.getElem_toArray, List.getElem_cons_succ, List.getElem_cons_zero, List.setIfInBounds_toArray, List.set_cons_zero, List.set_cons_succ]
    exact OpStep.val (v := .bool true) (w' := w5) (by go_simp) (by kernel_rfl) (Below.refl _ _) rfl
  · refine StepAt.mk rfl [(42, 112), (44, 114)] (by kernel_rfl) (by kernel_rfl) (fun vals w5 hB hD => ?_)
    have d42 := hD (42, 112) (by simp)
    have d44 := hD (44, 114) (by simp)
    clear hD
    simp only [List.foldl_cons] at *
    simp only [List.foldl_nil]
    generalize vals 42 = x42 at *
    change x42 = .bool true at d42
    subst d42
    generalize vals 44 = x44 at *
    change x44 = .bool true at d44
    subst d44
    try simp only [Act.put, List.getElem_toArray, List.getElem_cons_succ, List.getElem_cons_zero, List.setIfInBounds_toArray, List.set_cons_zero, List.set_cons_succ]
    exact OpStep.val (v := .bool true) (w' := w5) (by go_simp) (by kernel_rfl) (Below.refl _ _) rfl
  · refine StepAt.mk rfl [(45, 115)] (by kernel_rfl) (by kernel_rfl) (fun vals w5 hB hD => ?_)
    have d45 := hD (45, 115) (by simp)
    clear hD
    simp only [List.foldl_cons] at *
    simp only [List.foldl_nil]
    generalize vals 45 = x45 at *
    change x45 = .bool true at d45
    subst d45
    try simp only [Act.put, List.getElem_toArray, List.getElem_cons_succ, List.getElem_cons_zero, List.setIfInBounds_toArray, List.set_cons_zero, List.set_cons_succ]
    exact OpStep.val (v := .bool true) (w' := w5) (by go_simp) (by kernel_rfl) (Below.refl _ _) rfl
  · refine StepAt.mk rfl [(46, 116)] (by kernel_rfl) (by kernel_rfl) (fun vals w5 hB hD => ?_)
    have d46 := hD (46, 116) (by simp)
    clear hD
    simp only [List.foldl_cons] at *
    simp only [List.foldl_nil]
    generalize vals 46 = x46 at *
    change x46 = .bool true at d46
    subst d46
    try simp only [Act.put, List.getElem_toArray, List.getElem_cons_succ, List.getElem_cons_zero, List.setIfInBounds_toArray, List.set_cons_zero, List.set_cons_succ]
    obtain ⟨c0, c1⟩ := (Hv7.out.blk.below hB Hv7.out.blk.lt).cells.c2
    simp only [Nat.zero_add] at c1
    exact OpStep.val (v := .agg #[.slice p69 2 q70, .slice p71 oneR.length q72]) (w' := w5) (by go_simp) (by kernel_rfl) (Below.refl _ _) (show (Pd.rel _ _).says _ _ from ⟨_, _, _, _, rfl, Hv7.out.rel.below hB⟩)
  · refine StepAt.mk rfl [(46, 116)] (by kernel_rfl) (by kernel_rfl) (fun vals w5 hB hD => ?_)
    have d46 := hD (46, 116) (by simp)
    clear hD
    simp only [List.foldl_cons] at *
    simp only [List.foldl_nil]
    generalize vals 46 = x46 at *
    change x46 = .bool true at d46
    subst d46
    try simp only [Act.put, List.getElem_toArray, List.getElem_cons_succ, List.getElem_cons_zero, List.setIfInBounds_toArray, List.set_cons_zero, List.set_cons_succ]
    refine OpStep.call (f := 48) (args := #[]) (by kernel_rfl) (by kernel_rfl) ?_
    exact one_P w5 _ (fun w6 v hB6 hV => ⟨v, rfl, hB6, hV⟩)
  · refine StepAt.mk rfl [(46, 116), (47, 117), (48, 118)] (by kernel_rfl) (by kernel_rfl) (fun vals w5 hB hD => ?_)
    have d46 := hD (46, 116) (by simp)
    have d47 := hD (47, 117) (by simp)
    have d48 := hD (48, 118) (by simp)
    clear hD
    simp only [List.foldl_cons] at *
    simp only [List.foldl_nil]
    generalize vals 46 = x46 at *
    change x46 = .bool true at d46
    subst d46
    generalize vals 47 = x47 at *
    change (Pd.rel [[120], [121]] oneR).says x47 w5 at d47
    obtain ⟨pa47, qa47, pb47, qb47, rfl, d47⟩ := d47
    generalize vals 48 = x48 at *
    change (Pd.rel [[120], [121]] oneR).says x48 w5 at d48
    obtain ⟨pa48, qa48, pb48, qb48, rfl, d48⟩ := d48
    try simp only [Act.put, List.getElem_toArray, List.getElem_cons_succ, List.getElem_cons_zero, List.setIfInBounds_toArray, List.set_cons_zero, List.set_cons_succ]
    refine OpStep.call (f := 29) (args := #[.agg #[.slice pa47 ([[120], [121]] : List S).length qa47, .slice pb47 (oneR : List (List V)).length qb47], .agg #[.slice pa48 ([[120], [121]] : List S).length qa48, .slice pb48 (oneR : List (List V)).length qb48]]) (by kernel_rfl) (by kernel_rfl) ?_
    exact Same_K d47 d48 (by decide +kernel) (by decide +kernel) (by decide +kernel) _ (fun w6 hB6 => ⟨_, rfl, hB6, rfl⟩)
  · refine StepAt.mk rfl [(46, 116), (49, 119)] (by kernel_rfl) (by kernel_rfl) (fun vals w5 hB hD => ?_)
    have d46 := hD (46, 116) (by simp)
    have d49 := hD (49, 119) (by simp)
    clear hD
    simp only [List.foldl_cons] at *
    simp only [List.foldl_nil]
    generalize vals 46 = x46 at *
    change x46 = .bool true at d46
    subst d46
    generalize vals 49 = x49 at *
    change x49 = .bool true at d49
    subst d49
    try simp only [Act.put, List.getElem_toArray, List.getElem_cons_succ, List.getElem_cons_zero, List.setIfInBounds_toArray, List.set_cons_zero, List.set_cons_succ]
    exact OpStep.val (v := .bool true) (w' := w5) (by go_simp) (by kernel_rfl) (Below.refl _ _) rfl
  · refine StepAt.mk rfl [(50, 120)] (by kernel_rfl) (by kernel_rfl) (fun vals w5 hB hD => ?_)
    have d50 := hD (50, 120) (by simp)
    clear hD
    simp only [List.foldl_cons] at *
    simp only [List.foldl_nil]
    generalize vals 50 = x50 at *
    change x50 = .bool true at d50
    subst d50
    try simp only [Act.put, List.getElem_toArray, List.getElem_cons_succ, List.getElem_cons_zero, List.setIfInBounds_toArray, List.set_cons_zero, List.set_cons_succ]
    exact OpStep.val (v := .bool true) (w' := w5) (by go_simp) (by kernel_rfl) (Below.refl _ _) rfl
  · refine StepAt.mk rfl [(51, 121)] (by kernel_rfl) (by kernel_rfl) (fun vals w5 hB hD => ?_)
    have d51 := hD (51, 121) (by simp)
    clear hD
    simp only [List.foldl_cons] at *
    simp only [List.foldl_nil]
    generalize vals 51 = x51 at *
    change x51 = .bool true at d51
    subst d51
    try simp only [Act.put, List.getElem_toArray, List.getElem_cons_succ, List.getElem_cons_zero, List.setIfInBounds_toArray, List.set_cons_zero, List.set_cons_succ]
    exact OpStep.val (v := .int .i64 2) (w' := w5) (by go_simp) (by kernel_rfl) (Below.refl _ _) rfl
  · refine StepAt.mk rfl [(51, 121), (52, 122)] (by kernel_rfl) (by kernel_rfl) (fun vals w5 hB hD => ?_)
    have d51 := hD (51, 121) (by simp)
    have d52 := hD (52, 122) (by simp)
    clear hD
    simp only [List.foldl_cons] at *
    simp only [List.foldl_nil]
    generalize vals 51 = x51 at *
    change x51 = .bool true at d51
    subst d51
    generalize vals 52 = x52 at *
    change x52 = .int .i64 2 at d52
    subst d52
    try simp only [Act.put, List.getElem_toArray, List.getElem_cons_succ, List.getElem_cons_zero, List.setIfInBounds_toArray, List.set_cons_zero, List.set_cons_succ]
    exact OpStep.val (v := .bool true) (w' := w5) (by go_simp) (by kernel_rfl) (Below.refl _ _) rfl
  · refine StepAt.mk rfl [(51, 121), (53, 123)] (by kernel_rfl) (by kernel_rfl) (fun vals w5 hB hD => ?_)
    have d51 := hD (51, 121) (by simp)
    have d53 := hD (53, 123) (by simp)
    clear hD
    simp only [List.foldl_cons] at *
    simp only [List.foldl_nil]
    generalize vals 51 = x51 at *
    change x51 = .bool true at d51
    subst d51
    generalize vals 53 = x53 at *
    change x53 = .bool true at d53
    subst d53
    try simp only [Act.put, List.getElem_toArray, List.getElem_cons_succ, List.getElem_cons_zero, List.setIfInBounds_toArray, List.set_cons_zero, List.set_cons_succ]
    exact OpStep.val (v := .bool true) (w' := w5) (by go_simp) (by kernel_rfl) (Below.refl _ _) rfl
  · refine StepAt.mk rfl [(54, 124)] (by kernel_rfl) (by kernel_rfl) (fun vals w5 hB hD => ?_)
    have d54 := hD (54, 124) (by simp)
    clear hD
    simp only [List.foldl_cons] at *
    simp only [List.foldl_nil]
    generalize vals 54 = x54 at *
    change x54 = .bool true at d54
    subst d54
    try simp only [Act.put, List.getElem_toArray, List.getElem_cons_succ, List.getElem_cons_zero, List.setIfInBounds_toArray, List.set_cons_zero, List.set_cons_succ]
    exact OpStep.val (v := .bool true) (w' := w5) (by go_simp) (by kernel_rfl) (Below.refl _ _) rfl
  · refine StepAt.mk rfl [(55, 125)] (by kernel_rfl) (by kernel_rfl) (fun vals w5 hB hD => ?_)
    have d55 := hD (55, 125) (by simp)
    clear hD
    simp only [List.foldl_cons] at *
    simp only [List.foldl_nil]
    generalize vals 55 = x55 at *
    change x55 = .bool true at d55
    subst d55
    try simp only [Act.put, List.getElem_toArray, List.getElem_cons_succ, List.getElem_cons_zero, List.setIfInBounds_toArray, List.set_cons_zero, List.set_cons_succ]
    exact OpStep.val (v := .int .i64 2) (w' := w5) (by go_simp) (by kernel_rfl) (Below.refl _ _) rfl
  · refine StepAt.mk rfl [(55, 125), (56, 126)] (by kernel_rfl) (by kernel_rfl) (fun vals w5 hB hD => ?_)
    have d55 := hD (55, 125) (by simp)
    have d56 := hD (56, 126) (by simp)
    clear hD
    simp only [List.foldl_cons] at *
    simp only [List.foldl_nil]
    generalize vals 55 = x55 at *
    change x55 = .bool true at d55
    subst d55
    generalize vals 56 = x56 at *
    change x56 = .int .i64 2 at d56
    subst d56
    try simp only [Act.put, List.getElem_toArray, List.getElem_cons_succ, List.getElem_cons_zero, List.setIfInBounds_toArray, List.set_cons_zero, List.set_cons_succ]
    exact OpStep.val (v := .bool true) (w' := w5) (by go_simp) (by kernel_rfl) (Below.refl _ _) rfl
  · refine StepAt.mk rfl [(55, 125), (57, 127)] (by kernel_rfl) (by kernel_rfl) (fun vals w5 hB hD => ?_)
    have d55 := hD (55, 125) (by simp)
    have d57 := hD (57, 127) (by simp)
    clear hD
    simp only [List.foldl_cons] at *
    simp only [List.foldl_nil]
    generalize vals 55 = x55 at *
    change x55 = .bool true at d55
    subst d55
    generalize vals 57 = x57 at *
    change x57 = .bool true at d57
    subst d57
    try simp only [Act.put, List.getElem_toArray, List.getElem_cons_succ, List.getElem_cons_zero, List.setIfInBounds_toArray, List.set_cons_zero, List.set_cons_succ]
    exact OpStep.val (v := .bool true) (w' := w5) (by go_simp) (by kernel_rfl) (Below.refl _ _) rfl
  · refine StepAt.mk rfl [(58, 128)] (by kernel_rfl) (by kernel_rfl) (fun vals w5 hB hD => ?_)
    have d58 := hD (58, 128) (by simp)
    clear hD
    simp only [List.foldl_cons] at *
    simp only [List.foldl_nil]
    generalize vals 58 = x58 at *
    change x58 = .bool true at d58
    subst d58
    try simp only [Act.put, List.getElem_toArray, List.getElem_cons_succ, List.getElem_cons_zero, List.setIfInBounds_toArray, List.set_cons_zero, List.set_cons_succ]
    exact OpStep.val (v := .bool true) (w' := w5) (by go_simp) (by kernel_rfl) (Below.refl _ _) rfl
  simp only [List.foldl_cons, List.foldl_nil]
  try simp only [Act.put, List.getElem_toArray, List.getElem_cons_succ, List.getElem_cons_zero, List.setIfInBounds_toArray, List.set_cons_zero, List.set_cons_succ]
  have z : vals 59 = .bool true := hV 59 (by decide)
  rw [z]
  clear z hV
  replace HB := Lib.hid (HB.out.trans (hB.mono HB.out.size))
  replace Hv1 := Lib.hid (Hv1.out.below hB)
  replace Hv3 := Lib.hid (Hv3.out.below hB)
  replace Hv5 := Lib.hid (Hv5.out.below hB)
  replace Hv7 := Lib.hid (Hv7.out.below hB)
  clear hB
  clear Hv1 Hv3 Hv5 Hv7
  obtain ⟨wl103, ewl103⟩ : ∃ x, x = wz.alloc (.cells #[.string ⟨#[120]⟩, .string ⟨#[120]⟩] 9) := ⟨_, rfl⟩
  have hB : Below wz.heap.size wz wl103 := by rw [ewl103]; exact alloc_below _ _
  have hsz : wz.heap.size + 1 = wl103.heap.size := by rw [ewl103]; simp
  have hV : (Pd.strs [[120], [120]]).says (.slice (some ⟨wz.heap.size, 0, none⟩) 2 2) wl103 := by rw [ewl103]; exact Pd.strsLit wz [[120], [120]] (by decide) rfl
  replace HB := Lib.hid (HB.out.trans (hB.mono HB.out.size))
  have Hwl103 := Lib.hid (hV)
  have Hewl103 := Lib.hid ewl103
  have hswl103 := Lib.hid hsz
  clear hB hV hsz ewl103
  go_wp2_with fail
  rw [← Hewl103.out]
  clear Hewl103
  refine Of_K Hwl103.out (show (Pd.rows []).says (.slice none 0 0) wl103 from Sl.nil _ _ _ _ _) (by decide) (by decide) (e := 2) (co := []) (lo := []) (by decide +kernel) (by decide +kernel) (by decide +kernel) _ (fun wc104 v hB hV => ?_)
  obtain ⟨p105, q106, p107, q108, rfl, hV⟩ := hV
  replace HB := Lib.hid (HB.out.trans (hB.mono HB.out.size))
  replace Hwl103 := Lib.hid (Pd.step Hwl103.out hB)
  have Hrel109 := Lib.hid (show (Pd.rel _ _).says _ _ from ⟨_, _, _, _, rfl, hV⟩)
  clear hB hV
  go_upto_region 9 with fail
  have hb := RelH.box (n := wc104.heap.size) (relH Hrel109.out) rfl
  have hB := alloc_below wc104 (.cells #[.slice p105 0 q106, .slice p107 0 q108] 34)
  try simp only [List.length_cons, List.length_nil, Nat.zero_add, Nat.reduceAdd] at hb
  generalize wc104.alloc (.cells #[.slice p105 0 q106, .slice p107 0 q108] 34) = w110 at *
  obtain ⟨b14, eb14⟩ : ∃ b, b = wc104.heap.size := ⟨_, rfl⟩
  rw [← eb14] at hb ⊢
  clear eb14
  replace HB := Lib.hid (HB.out.trans (hB.mono HB.out.size))
  replace Hwl103 := Lib.hid (Pd.step Hwl103.out hB)
  replace Hrel109 := Lib.hid (Pd.step Hrel109.out hB)
  have Hv14 := Lib.hid (hb)
  clear hB hb
  clear Hrel109
  clear Hwl103
  clear Hv14
  obtain ⟨wl111, ewl111⟩ : ∃ x, x = w110.alloc (.cells #[.string ⟨#[120]⟩] 9) := ⟨_, rfl⟩
  have hB : Below w110.heap.size w110 wl111 := by rw [ewl111]; exact alloc_below _ _
  have hsz : w110.heap.size + 1 = wl111.heap.size := by rw [ewl111]; simp
  have hV : (Pd.strs [[120]]).says (.slice (some ⟨w110.heap.size, 0, none⟩) 1 1) wl111 := by rw [ewl111]; exact Pd.strsLit w110 [[120]] (by decide) rfl
  replace HB := Lib.hid (HB.out.trans (hB.mono HB.out.size))
  have Hwl111 := Lib.hid (hV)
  have Hewl111 := Lib.hid ewl111
  have hswl111 := Lib.hid hsz
  clear hB hV hsz ewl111
  obtain ⟨wl112, ewl112⟩ : ∃ x, x = wl111.alloc (.cells #[.int .i64 1, .int .i64 2] 2) := ⟨_, rfl⟩
  have hB : Below wl111.heap.size wl111 wl112 := by rw [ewl112]; exact alloc_below _ _
  have hsz : w110.heap.size + 1 + 1 = wl112.heap.size := by rw [ewl112]; simp; exact hswl111.out
  have hV : (Pd.ints [1, 2]).says (.slice (some ⟨w110.heap.size + 1, 0, none⟩) 2 2) wl112 := by rw [ewl112]; exact Pd.intsLit wl111 [1, 2] (by decide) hswl111.out
  replace HB := Lib.hid (HB.out.trans (hB.mono HB.out.size))
  replace Hwl111 := Lib.hid (Pd.step Hwl111.out hB)
  have Hwl112 := Lib.hid (hV)
  have Hewl112 := Lib.hid ewl112
  have hswl112 := Lib.hid hsz
  clear hB hV hsz ewl112
  go_wp2_with fail
  rw [← Hewl111.out, ← Hewl112.out]
  clear Hewl111 Hewl112
  refine row_P Hwl112.out (by decide) (by decide) _ (fun wc113 v hB hV => ?_)
  obtain ⟨p114, q115, rfl⟩ := Pd.form_row hV
  replace HB := Lib.hid (HB.out.trans (hB.mono HB.out.size))
  replace Hwl111 := Lib.hid (Pd.step Hwl111.out hB)
  replace Hwl112 := Lib.hid (Pd.step Hwl112.out hB)
  have Hr116 := Lib.hid (hV)
  clear hB hV
  clear Hwl112
  obtain ⟨wl117, ewl117⟩ : ∃ x, x = wc113.alloc (.cells #[.slice p114 2 q115] 42) := ⟨_, rfl⟩
  have hB : Below wc113.heap.size wc113 wl117 := by rw [ewl117]; exact alloc_below _ _
  have hsz : wc113.heap.size + 1 = wl117.heap.size := by rw [ewl117]; simp
  have hV : (Pd.rows [([1, 2].map rowV)]).says (.slice (some ⟨wc113.heap.size, 0, none⟩) 1 1) wl117 := by rw [ewl117]; exact Pd.rowsLit wc113 [.slice p114 2 q115] [([1, 2].map rowV)] ⟨Hr116.out, trivial⟩ (by decide) rfl
  replace HB := Lib.hid (HB.out.trans (hB.mono HB.out.size))
  replace Hwl111 := Lib.hid (Pd.step Hwl111.out hB)
  replace Hr116 := Lib.hid (Pd.step Hr116.out hB)
  have Hwl117 := Lib.hid (hV)
  have Hewl117 := Lib.hid ewl117
  have hswl117 := Lib.hid hsz
  clear hB hV hsz ewl117
  go_wp2_with fail
  rw [← Hewl117.out]
  clear Hewl117
  refine Of_K Hwl111.out Hwl117.out (by decide) (by decide) (e := 2) (co := []) (lo := []) (by decide +kernel) (by decide +kernel) (by decide +kernel) _ (fun wc118 v hB hV => ?_)
  obtain ⟨p119, q120, p121, q122, rfl, hV⟩ := hV
  replace HB := Lib.hid (HB.out.trans (hB.mono HB.out.size))
  replace Hwl111 := Lib.hid (Pd.step Hwl111.out hB)
  replace Hr116 := Lib.hid (Pd.step Hr116.out hB)
  replace Hwl117 := Lib.hid (Pd.step Hwl117.out hB)
  have Hrel123 := Lib.hid (show (Pd.rel _ _).says _ _ from ⟨_, _, _, _, rfl, hV⟩)
  clear hB hV
  go_upto_region 10 with fail
  have hb := RelH.box (n := wc118.heap.size) (relH Hrel123.out) rfl
  have hB := alloc_below wc118 (.cells #[.slice p119 0 q120, .slice p121 0 q122] 34)
  try simp only [List.length_cons, List.length_nil, Nat.zero_add, Nat.reduceAdd] at hb
  generalize wc118.alloc (.cells #[.slice p119 0 q120, .slice p121 0 q122] 34) = w124 at *
  obtain ⟨b16, eb16⟩ : ∃ b, b = wc118.heap.size := ⟨_, rfl⟩
  rw [← eb16] at hb ⊢
  clear eb16
  replace HB := Lib.hid (HB.out.trans (hB.mono HB.out.size))
  replace Hwl111 := Lib.hid (Pd.step Hwl111.out hB)
  replace Hr116 := Lib.hid (Pd.step Hr116.out hB)
  replace Hwl117 := Lib.hid (Pd.step Hwl117.out hB)
  replace Hrel123 := Lib.hid (Pd.step Hrel123.out hB)
  have Hv16 := Lib.hid (hb)
  clear hB hb
  clear Hrel123
  clear Hwl111 Hr116 Hwl117
  clear Hv16
  obtain ⟨wm, hmk, hB, hV⟩ := mk33 w124
  replace HB := Lib.hid (HB.out.trans (hB.mono HB.out.size))
  have Hmk := Lib.hid (hV)
  clear hB hV
  go_wp2_with fail
  refine Of_K Hmk.out (show (Pd.rows []).says (.slice none 0 0) wm from Sl.nil _ _ _ _ _) (by decide) (by decide) (e := 2) (co := []) (lo := []) (by decide +kernel) (by decide +kernel) (by decide +kernel) _ (fun wc125 v hB hV => ?_)
  clear hmk
  obtain ⟨p126, q127, p128, q129, rfl, hV⟩ := hV
  replace HB := Lib.hid (HB.out.trans (hB.mono HB.out.size))
  replace Hmk := Lib.hid (Pd.step Hmk.out hB)
  have Hrel130 := Lib.hid (show (Pd.rel _ _).says _ _ from ⟨_, _, _, _, rfl, hV⟩)
  clear hB hV
  go_upto_region 11 with fail
  have hb := RelH.box (n := wc125.heap.size) (relH Hrel130.out) rfl
  have hB := alloc_below wc125 (.cells #[.slice p126 0 q127, .slice p128 0 q129] 34)
  try simp only [List.length_cons, List.length_nil, Nat.zero_add, Nat.reduceAdd] at hb
  generalize wc125.alloc (.cells #[.slice p126 0 q127, .slice p128 0 q129] 34) = w131 at *
  obtain ⟨b18, eb18⟩ : ∃ b, b = wc125.heap.size := ⟨_, rfl⟩
  rw [← eb18] at hb ⊢
  clear eb18
  replace HB := Lib.hid (HB.out.trans (hB.mono HB.out.size))
  replace Hmk := Lib.hid (Pd.step Hmk.out hB)
  replace Hrel130 := Lib.hid (Pd.step Hrel130.out hB)
  have Hv18 := Lib.hid (hb)
  clear hB hb
  clear Hrel130
  clear Hmk
  clear Hv18
  go_wp2_with fail
  refine one_P w131 _ (fun wc132 v hB hV => ?_)
  obtain ⟨p133, q134, p135, q136, rfl, hV⟩ := hV
  replace HB := Lib.hid (HB.out.trans (hB.mono HB.out.size))
  have Hrel137 := Lib.hid (show (Pd.rel _ _).says _ _ from ⟨_, _, _, _, rfl, hV⟩)
  clear hB hV
  go_wp2_with fail
  refine two_P wc132 _ (fun wc138 v hB hV => ?_)
  obtain ⟨p139, q140, p141, q142, rfl, hV⟩ := hV
  replace HB := Lib.hid (HB.out.trans (hB.mono HB.out.size))
  replace Hrel137 := Lib.hid (Pd.step Hrel137.out hB)
  have Hrel143 := Lib.hid (show (Pd.rel _ _).says _ _ from ⟨_, _, _, _, rfl, hV⟩)
  clear hB hV
  go_wp2_with fail
  refine Or_K (relH Hrel137.out) (relH Hrel143.out) (by decide) (e := 2) (co := []) (lo := []) (by decide +kernel) (by decide +kernel) (by decide +kernel) _ (fun wc144 v hB hV => ?_)
  obtain ⟨p145, q146, p147, q148, rfl, hV⟩ := hV
  replace HB := Lib.hid (HB.out.trans (hB.mono HB.out.size))
  replace Hrel137 := Lib.hid (Pd.step Hrel137.out hB)
  replace Hrel143 := Lib.hid (Pd.step Hrel143.out hB)
  have Hrel149 := Lib.hid (show (Pd.rel _ _).says _ _ from ⟨_, _, _, _, rfl, hV⟩)
  clear hB hV
  go_upto_region 12 with fail
  have hb := RelH.box (n := wc144.heap.size) (relH Hrel149.out) rfl
  have hB := alloc_below wc144 (.cells #[.slice p145 0 q146, .slice p147 0 q148] 34)
  try simp only [List.length_cons, List.length_nil, Nat.zero_add, Nat.reduceAdd] at hb
  generalize wc144.alloc (.cells #[.slice p145 0 q146, .slice p147 0 q148] 34) = w150 at *
  obtain ⟨b20, eb20⟩ : ∃ b, b = wc144.heap.size := ⟨_, rfl⟩
  rw [← eb20] at hb ⊢
  clear eb20
  replace HB := Lib.hid (HB.out.trans (hB.mono HB.out.size))
  replace Hrel137 := Lib.hid (Pd.step Hrel137.out hB)
  replace Hrel143 := Lib.hid (Pd.step Hrel143.out hB)
  replace Hrel149 := Lib.hid (Pd.step Hrel149.out hB)
  have Hv20 := Lib.hid (hb)
  clear hB hb
  clear Hrel149
  clear Hrel137 Hrel143
  clear Hv20
  go_wp2_with fail
  refine one_P w150 _ (fun wc151 v hB hV => ?_)
  obtain ⟨p152, q153, p154, q155, rfl, hV⟩ := hV
  replace HB := Lib.hid (HB.out.trans (hB.mono HB.out.size))
  have Hrel156 := Lib.hid (show (Pd.rel _ _).says _ _ from ⟨_, _, _, _, rfl, hV⟩)
  clear hB hV
  go_wp2_with fail
  refine SelectNil_K (relH Hrel156.out) _ (fun wc157 v hB hV => ?_)
  obtain ⟨p158, q159, p160, q161, rfl, hV⟩ := hV
  replace HB := Lib.hid (HB.out.trans (hB.mono HB.out.size))
  replace Hrel156 := Lib.hid (Pd.step Hrel156.out hB)
  have Hrel162 := Lib.hid (show (Pd.rel _ _).says _ _ from ⟨_, _, _, _, rfl, hV⟩)
  clear hB hV
  go_upto_region 13 with fail
  have hb := RelH.box (n := wc157.heap.size) (relH Hrel162.out) rfl
  have hB := alloc_below wc157 (.cells #[.slice p158 0 q159, .slice p160 0 q161] 34)
  try simp only [List.length_cons, List.length_nil, Nat.zero_add, Nat.reduceAdd] at hb
  generalize wc157.alloc (.cells #[.slice p158 0 q159, .slice p160 0 q161] 34) = w163 at *
  obtain ⟨b22, eb22⟩ : ∃ b, b = wc157.heap.size := ⟨_, rfl⟩
  rw [← eb22] at hb ⊢
  clear eb22
  replace HB := Lib.hid (HB.out.trans (hB.mono HB.out.size))
  replace Hrel156 := Lib.hid (Pd.step Hrel156.out hB)
  replace Hrel162 := Lib.hid (Pd.step Hrel162.out hB)
  have Hv22 := Lib.hid (hb)
  clear hB hb
  clear Hrel162
  clear Hrel156
  clear Hv22
  go_wp2_with fail
  refine one_P w163 _ (fun wc164 v hB hV => ?_)
  obtain ⟨p165, q166, p167, q168, rfl, hV⟩ := hV
  replace HB := Lib.hid (HB.out.trans (hB.mono HB.out.size))
  have Hrel169 := Lib.hid (show (Pd.rel _ _).says _ _ from ⟨_, _, _, _, rfl, hV⟩)
  clear hB hV
  go_wp2_with fail
  refine Project_K (relH Hrel169.out) (cols := []) (show (Pd.strs []).says (.slice none 0 0) wc164 from Sl.nil _ _ _ _ _) (by decide) (by decide) (e := 0) (co := []) (lo := [[]]) (by decide +kernel) (by decide +kernel) (by decide +kernel) _ (fun wc170 v hB hV => ?_)
  obtain ⟨p171, q172, p173, q174, rfl, hV⟩ := hV
  replace HB := Lib.hid (HB.out.trans (hB.mono HB.out.size))
  replace Hrel169 := Lib.hid (Pd.step Hrel169.out hB)
  have Hrel175 := Lib.hid (show (Pd.rel _ _).says _ _ from ⟨_, _, _, _, rfl, hV⟩)
  clear hB hV
  go_upto_region 14 with fail
  have hb := RelH.box (n := wc170.heap.size) (relH Hrel175.out) rfl
  have hB := alloc_below wc170 (.cells #[.slice p171 0 q172, .slice p173 1 q174] 34)
  try simp only [List.length_cons, List.length_nil, Nat.zero_add, Nat.reduceAdd] at hb
  generalize wc170.alloc (.cells #[.slice p171 0 q172, .slice p173 1 q174] 34) = w176 at *
  obtain ⟨b24, eb24⟩ : ∃ b, b = wc170.heap.size := ⟨_, rfl⟩
  rw [← eb24] at hb ⊢
  clear eb24
  replace HB := Lib.hid (HB.out.trans (hB.mono HB.out.size))
  replace Hrel169 := Lib.hid (Pd.step Hrel169.out hB)
  replace Hrel175 := Lib.hid (Pd.step Hrel175.out hB)
  have Hv24 := Lib.hid (hb)
  clear hB hb
  clear Hrel175
  clear Hrel169
  obtain ⟨c0, c1⟩ := Hv24.out.blk.cells.c2
  simp only [Nat.zero_add] at c1
  try simp only [List.length_nil, List.length_cons, Nat.zero_add] at c0 c1
  go_upto_region 15 with fail
  clear c0 c1
  clear Hv24
  obtain ⟨wl177, ewl177⟩ : ∃ x, x = w176.alloc (.cells #[.string ⟨#[120]⟩] 9) := ⟨_, rfl⟩
  have hB : Below w176.heap.size w176 wl177 := by rw [ewl177]; exact alloc_below _ _
  have hsz : w176.heap.size + 1 = wl177.heap.size := by rw [ewl177]; simp
  have hV : (Pd.strs [[120]]).says (.slice (some ⟨w176.heap.size, 0, none⟩) 1 1) wl177 := by rw [ewl177]; exact Pd.strsLit w176 [[120]] (by decide) rfl
  replace HB := Lib.hid (HB.out.trans (hB.mono HB.out.size))
  have Hwl177 := Lib.hid (hV)
  have Hewl177 := Lib.hid ewl177
  have hswl177 := Lib.hid hsz
  clear hB hV hsz ewl177
  obtain ⟨wl178, ewl178⟩ : ∃ x, x = wl177.alloc (.cells #[.int .i64 2] 2) := ⟨_, rfl⟩
  have hB : Below wl177.heap.size wl177 wl178 := by rw [ewl178]; exact alloc_below _ _
  have hsz : w176.heap.size + 1 + 1 = wl178.heap.size := by rw [ewl178]; simp; exact hswl177.out
  have hV : (Pd.ints [2]).says (.slice (some ⟨w176.heap.size + 1, 0, none⟩) 1 1) wl178 := by rw [ewl178]; exact Pd.intsLit wl177 [2] (by decide) hswl177.out
  replace HB := Lib.hid (HB.out.trans (hB.mono HB.out.size))
  replace Hwl177 := Lib.hid (Pd.step Hwl177.out hB)
  have Hwl178 := Lib.hid (hV)
  have Hewl178 := Lib.hid ewl178
  have hswl178 := Lib.hid hsz
  clear hB hV hsz ewl178
  go_wp2_with fail
  rw [← Hewl177.out, ← Hewl178.out]
  clear Hewl177 Hewl178
  refine row_P Hwl178.out (by decide) (by decide) _ (fun wc179 v hB hV => ?_)
  obtain ⟨p180, q181, rfl⟩ := Pd.form_row hV
  replace HB := Lib.hid (HB.out.trans (hB.mono HB.out.size))
  replace Hwl177 := Lib.hid (Pd.step Hwl177.out hB)
  replace Hwl178 := Lib.hid (Pd.step Hwl178.out hB)
  have Hr182 := Lib.hid (hV)
  clear hB hV
  clear Hwl178
  obtain ⟨wl183, ewl183⟩ : ∃ x, x = wc179.alloc (.cells #[.int .i64 1] 2) := ⟨_, rfl⟩
  have hB : Below wc179.heap.size wc179 wl183 := by rw [ewl183]; exact alloc_below _ _
  have hsz : wc179.heap.size + 1 = wl183.heap.size := by rw [ewl183]; simp
  have hV : (Pd.ints [1]).says (.slice (some ⟨wc179.heap.size, 0, none⟩) 1 1) wl183 := by rw [ewl183]; exact Pd.intsLit wc179 [1] (by decide) rfl
  replace HB := Lib.hid (HB.out.trans (hB.mono HB.out.size))
  replace Hwl177 := Lib.hid (Pd.step Hwl177.out hB)
  replace Hr182 := Lib.hid (Pd.step Hr182.out hB)
  have Hwl183 := Lib.hid (hV)
  have Hewl183 := Lib.hid ewl183
  have hswl183 := Lib.hid hsz
  clear hB hV hsz ewl183
  go_wp2_with fail
  rw [← Hewl183.out]
  clear Hewl183
  refine row_P Hwl183.out (by decide) (by decide) _ (fun wc184 v hB hV => ?_)
  obtain ⟨p185, q186, rfl⟩ := Pd.form_row hV
  replace HB := Lib.hid (HB.out.trans (hB.mono HB.out.size))
  replace Hwl177 := Lib.hid (Pd.step Hwl177.out hB)
  replace Hr182 := Lib.hid (Pd.step Hr182.out hB)
  replace Hwl183 := Lib.hid (Pd.step Hwl183.out hB)
  have Hr187 := Lib.hid (hV)
  clear hB hV
  clear Hwl183
  obtain ⟨wl188, ewl188⟩ : ∃ x, x = wc184.alloc (.cells #[.slice p180 1 q181, .slice p185 1 q186] 42) := ⟨_, rfl⟩
  have hB : Below wc184.heap.size wc184 wl188 := by rw [ewl188]; exact alloc_below _ _
  have hsz : wc184.heap.size + 1 = wl188.heap.size := by rw [ewl188]; simp
  have hV : (Pd.rows [([2].map rowV), ([1].map rowV)]).says (.slice (some ⟨wc184.heap.size, 0, none⟩) 2 2) wl188 := by rw [ewl188]; exact Pd.rowsLit wc184 [.slice p180 1 q181, .slice p185 1 q186] [([2].map rowV), ([1].map rowV)] ⟨Hr182.out, Hr187.out, trivial⟩ (by decide) rfl
  replace HB := Lib.hid (HB.out.trans (hB.mono HB.out.size))
  replace Hwl177 := Lib.hid (Pd.step Hwl177.out hB)
  replace Hr182 := Lib.hid (Pd.step Hr182.out hB)
  replace Hr187 := Lib.hid (Pd.step Hr187.out hB)
  have Hwl188 := Lib.hid (hV)
  have Hewl188 := Lib.hid ewl188
  have hswl188 := Lib.hid hsz
  clear hB hV hsz ewl188
  clear Hr182 Hr187
  go_upto_region 16 with fail
  rw [← Hewl188.out]
  clear Hewl188
  have hq : RelH wl188 (some ⟨w176.heap.size, 0, none⟩) 1 (some ⟨wc184.heap.size, 0, none⟩) 2 [[120]] [([2].map rowV), ([1].map rowV)] := ⟨Hwl177.out, Hwl188.out⟩
  have hb := hq.box (n := wc184.heap.size + 1) hswl188.out
  clear hq
  have hB := alloc_below wl188 (.cells #[.slice (some ⟨w176.heap.size, 0, none⟩) 1 1, .slice (some ⟨wc184.heap.size, 0, none⟩) 2 2] 34)
  try simp only [List.length_cons, List.length_nil, Nat.zero_add, Nat.reduceAdd] at hb
  generalize wl188.alloc (.cells #[.slice (some ⟨w176.heap.size, 0, none⟩) 1 1, .slice (some ⟨wc184.heap.size, 0, none⟩) 2 2] 34) = w189 at *
  obtain ⟨b27, eb27⟩ : ∃ b, b = wc184.heap.size + 1 := ⟨_, rfl⟩
  rw [← eb27] at hb ⊢
  clear eb27
  replace HB := Lib.hid (HB.out.trans (hB.mono HB.out.size))
  replace Hwl177 := Lib.hid (Pd.step Hwl177.out hB)
  replace Hwl188 := Lib.hid (Pd.step Hwl188.out hB)
  have Hv27 := Lib.hid (hb)
  clear hB hb
  clear Hwl177 Hwl188
  have hS0 : Below w189.heap.size w189 w189.drew := (Below.refl _ _).drew
  refine wp_via (fun a0 a' w' => Below w189.heap.size w189 w' ∧ ∃ u205 u206 u207 u204 u208 u209 u28 : Value, a' = (((((((a0.put (some 205) u205).put (some 206) u206).put (some 207) u207).put (some 204) u204).put (some 208) u208).put (some 209) u209).put (some 28) u28).put (some 29) (.int .i64 2)) ?via16 ?_
  case via16 =>
    refine wp_region_held_drew (S := fun w' => Below w189.heap.size w189 w') (by kernel_rfl) hS0 (fun hHeld => ?_)
    clear hS0
    generalize w189.drew = wd at *
    refine wpAnyH_take (i := 1) (v := .agg #[.slice (some ⟨w176.heap.size, 0, none⟩) 1 1, .slice (some ⟨wc184.heap.size, 0, none⟩) 2 2]) rfl (by kernel_rfl) (by kernel_rfl) (by kernel_rfl) (fun _ _ _ h => h) (Or.inl ⟨by rfl, ?_⟩) hHeld ?_
    · intro w' hSw; obtain ⟨z0, z1⟩ := (Hv27.out.blk.below hSw Hv27.out.blk.lt).cells.c2; simp only [Nat.zero_add] at z1; go_simp
    try simp only [Act.put, List.getElem_toArray, List.getElem_cons_succ, List.getElem_cons_zero, List.setIfInBounds_toArray, List.set_cons_zero, List.set_cons_succ]
    refine wpAnyH_ready (rs := [0, 6]) (by kernel_rfl) (by simp) ?_
    refine allCall (f := 48) (args := #[]) rfl (by kernel_rfl) (by kernel_rfl) ?_ ?_
    · refine one_P wd _ (fun we1 v hB hV => ?_)
      obtain ⟨pa, qa, pb, qb, rfl, hV⟩ := hV
      refine ⟨_, rfl, hHeld.trans (hB.mono hHeld.size), ?_⟩
      have hHeld2 := hHeld.trans (hB.mono hHeld.size)
      clear hHeld
      have hHeld := hHeld2
      clear hHeld2
      have Hone := Lib.hid (show (Pd.rel _ _).says _ _ from ⟨_, _, _, _, rfl, hV⟩)
      clear hB hV
      try simp only [Act.put, List.getElem_toArray, List.getElem_cons_succ, List.getElem_cons_zero, List.setIfInBounds_toArray, List.set_cons_zero, List.set_cons_succ]
      refine wpAnyH_ready (rs := [2, 6]) (by kernel_rfl) (by simp) ?_
      refine allCall (f := 41) (args := #[.agg #[.slice pa 2 qa, .slice pb oneR.length qb], .agg #[.slice (some ⟨w176.heap.size, 0, none⟩) 1 1, .slice (some ⟨wc184.heap.size, 0, none⟩) 2 2]]) rfl (by kernel_rfl) (by kernel_rfl) ?_ ?_
      · refine Join_K (relH Hone.out) (Hv27.out.rel.below hHeld) (by decide) (e := 2) (co := []) (lo := []) (by decide +kernel) (by decide +kernel) (by decide +kernel) _ (fun we2 v hB hV => ?_)
        obtain ⟨pc, qc, pd, qd, rfl, hV⟩ := hV
        refine ⟨_, rfl, hHeld.trans (hB.mono hHeld.size), ?_⟩
        have hHeld2 := hHeld.trans (hB.mono hHeld.size)
        clear hHeld
        have hHeld := hHeld2
        clear hHeld2
        clear hB hV Hone
        try simp only [Act.put, List.getElem_toArray, List.getElem_cons_succ, List.getElem_cons_zero, List.setIfInBounds_toArray, List.set_cons_zero, List.set_cons_succ]
        refine wpAnyH_take (i := 3) (v := .tuple #[.agg #[.slice pc 0 qc, .slice pd 0 qd], .int .i64 2]) rfl (by kernel_rfl) (by kernel_rfl) (by kernel_rfl) (fun _ _ _ h => h) (Or.inl ⟨by rfl, ?_⟩) hHeld ?_
        · intro w' hSw; go_simp
        try simp only [Act.put, List.getElem_toArray, List.getElem_cons_succ, List.getElem_cons_zero, List.setIfInBounds_toArray, List.set_cons_zero, List.set_cons_succ]
        refine wpAnyH_take (i := 4) (v := .agg #[.slice pc 0 qc, .slice pd 0 qd]) rfl (by kernel_rfl) (by kernel_rfl) (by kernel_rfl) (fun _ _ _ h => h) (Or.inl ⟨by rfl, ?_⟩) hHeld ?_
        · intro w' hSw; go_simp
        try simp only [Act.put, List.getElem_toArray, List.getElem_cons_succ, List.getElem_cons_zero, List.setIfInBounds_toArray, List.set_cons_zero, List.set_cons_succ]
        refine wpAnyH_take (i := 5) (v := .int .i64 2) rfl (by kernel_rfl) (by kernel_rfl) (by kernel_rfl) (fun _ _ _ h => h) (Or.inl ⟨by rfl, ?_⟩) hHeld ?_
        · intro w' hSw; go_simp
        try simp only [Act.put, List.getElem_toArray, List.getElem_cons_succ, List.getElem_cons_zero, List.setIfInBounds_toArray, List.set_cons_zero, List.set_cons_succ]
        refine wpAnyH_ready (rs := [6]) (by kernel_rfl) (by simp) ?_
        refine allVal (v := .pointer (some ⟨we2.heap.size, 0, none⟩)) (w' := we2.alloc (.cells #[.slice none 0 0, .slice none 0 0] 34)) rfl (by kernel_rfl) (by go_simp) (hHeld.alloc hHeld.size _) ?_ AllReadyH.nil
        try simp only [Act.put, List.getElem_toArray, List.getElem_cons_succ, List.getElem_cons_zero, List.setIfInBounds_toArray, List.set_cons_zero, List.set_cons_succ]
        have hB := alloc_below we2 (.cells #[.slice none 0 0, .slice none 0 0] 34)
        have hbk := Blk.new we2 [.slice none 0 0, .slice none 0 0] 34 rfl
        have hlo : w189.heap.size ≤ we2.heap.size := hHeld.size
        generalize we2.alloc (.cells #[.slice none 0 0, .slice none 0 0] 34) = we3 at *
        obtain ⟨b28, eb28⟩ : ∃ b, b = we2.heap.size := ⟨_, rfl⟩
        rw [← eb28] at hbk hlo ⊢
        clear eb28
        have hHeld2 := hHeld.trans (hB.mono hHeld.size)
        clear hHeld
        have hHeld := hHeld2
        clear hHeld2
        have Hbx := Lib.hid hbk
        clear hbk hB
        refine wpAnyH_ready (rs := [7]) (by kernel_rfl) (by simp) ?_
        obtain ⟨c0, c1⟩ := Hbx.out.cells.c2
        simp only [Nat.zero_add] at c1
        have f0 := Hbx.out.free 0
        have f1 := Hbx.out.free 1
        have hS1 := (hHeld.setCell (p := ⟨b28, 0, none⟩) hlo (.slice pc 0 qc)).setCell (p := ⟨b28, 1, none⟩) hlo (.slice pd 0 qd)
        refine allSkip (w' := (we3.setCell ⟨b28, 0, none⟩ (.slice pc 0 qc)).setCell ⟨b28, 1, none⟩ (.slice pd 0 qd)) rfl (by kernel_rfl) (by go_simp) hS1 ?_ AllReadyH.nil
        generalize (we3.setCell ⟨b28, 0, none⟩ (.slice pc 0 qc)).setCell ⟨b28, 1, none⟩ (.slice pd 0 qd) = wy at *
        clear c0 c1 f0 f1
        have hHeld := hS1
        try simp only [Act.put, List.getElem_toArray, List.getElem_cons_succ, List.getElem_cons_zero, List.setIfInBounds_toArray, List.set_cons_zero, List.set_cons_succ]
        refine wpAnyH_take (i := 8) (v := .int .i64 2) rfl (by kernel_rfl) (by kernel_rfl) (by kernel_rfl) (fun _ _ _ h => h) (Or.inl ⟨by rfl, ?_⟩) hHeld ?_
        · intro w' hSw; go_simp
        try simp only [Act.put, List.getElem_toArray, List.getElem_cons_succ, List.getElem_cons_zero, List.setIfInBounds_toArray, List.set_cons_zero, List.set_cons_succ]
        refine wpAnyH_done (by kernel_rfl) ?_ _
        exact ⟨hHeld, _, _, _, _, _, _, _, rfl⟩
      refine allVal (v := .pointer (some ⟨we1.heap.size, 0, none⟩)) (w' := we1.alloc (.cells #[.slice none 0 0, .slice none 0 0] 34)) rfl (by kernel_rfl) (by go_simp) (hHeld.alloc hHeld.size _) ?_ AllReadyH.nil
      try simp only [Act.put, List.getElem_toArray, List.getElem_cons_succ, List.getElem_cons_zero, List.setIfInBounds_toArray, List.set_cons_zero, List.set_cons_succ]
      have hB := alloc_below we1 (.cells #[.slice none 0 0, .slice none 0 0] 34)
      have hbk := Blk.new we1 [.slice none 0 0, .slice none 0 0] 34 rfl
      have hlo : w189.heap.size ≤ we1.heap.size := hHeld.size
      generalize we1.alloc (.cells #[.slice none 0 0, .slice none 0 0] 34) = we4 at *
      obtain ⟨b28, eb28⟩ : ∃ b, b = we1.heap.size := ⟨_, rfl⟩
      rw [← eb28] at hbk hlo ⊢
      clear eb28
      have hHeld2 := hHeld.trans (hB.mono hHeld.size)
      clear hHeld
      have hHeld := hHeld2
      clear hHeld2
      replace Hone := Lib.hid (Pd.step Hone.out hB)
      have Hbx := Lib.hid hbk
      clear hbk hB
      refine wpAnyH_ready (rs := [2]) (by kernel_rfl) (by simp) ?_
      refine allCall (f := 41) (args := #[.agg #[.slice pa 2 qa, .slice pb oneR.length qb], .agg #[.slice (some ⟨w176.heap.size, 0, none⟩) 1 1, .slice (some ⟨wc184.heap.size, 0, none⟩) 2 2]]) rfl (by kernel_rfl) (by kernel_rfl) ?_ AllReadyH.nil
      refine Join_K (relH Hone.out) (Hv27.out.rel.below hHeld) (by decide) (e := 2) (co := []) (lo := []) (by decide +kernel) (by decide +kernel) (by decide +kernel) _ (fun we5 v hB hV => ?_)
      obtain ⟨pc, qc, pd, qd, rfl, hV⟩ := hV
      refine ⟨_, rfl, hHeld.trans (hB.mono hHeld.size), ?_⟩
      have hHeld2 := hHeld.trans (hB.mono hHeld.size)
      clear hHeld
      have hHeld := hHeld2
      clear hHeld2
      replace Hbx := Lib.hid (Hbx.out.below hB Hbx.out.lt)
      clear hB hV Hone
      try simp only [Act.put, List.getElem_toArray, List.getElem_cons_succ, List.getElem_cons_zero, List.setIfInBounds_toArray, List.set_cons_zero, List.set_cons_succ]
      refine wpAnyH_take (i := 3) (v := .tuple #[.agg #[.slice pc 0 qc, .slice pd 0 qd], .int .i64 2]) rfl (by kernel_rfl) (by kernel_rfl) (by kernel_rfl) (fun _ _ _ h => h) (Or.inl ⟨by rfl, ?_⟩) hHeld ?_
      · intro w' hSw; go_simp
      try simp only [Act.put, List.getElem_toArray, List.getElem_cons_succ, List.getElem_cons_zero, List.setIfInBounds_toArray, List.set_cons_zero, List.set_cons_succ]
      refine wpAnyH_take (i := 4) (v := .agg #[.slice pc 0 qc, .slice pd 0 qd]) rfl (by kernel_rfl) (by kernel_rfl) (by kernel_rfl) (fun _ _ _ h => h) (Or.inl ⟨by rfl, ?_⟩) hHeld ?_
      · intro w' hSw; go_simp
      try simp only [Act.put, List.getElem_toArray, List.getElem_cons_succ, List.getElem_cons_zero, List.setIfInBounds_toArray, List.set_cons_zero, List.set_cons_succ]
      refine wpAnyH_take (i := 5) (v := .int .i64 2) rfl (by kernel_rfl) (by kernel_rfl) (by kernel_rfl) (fun _ _ _ h => h) (Or.inl ⟨by rfl, ?_⟩) hHeld ?_
      · intro w' hSw; go_simp
      try simp only [Act.put, List.getElem_toArray, List.getElem_cons_succ, List.getElem_cons_zero, List.setIfInBounds_toArray, List.set_cons_zero, List.set_cons_succ]
      refine wpAnyH_ready (rs := [7]) (by kernel_rfl) (by simp) ?_
      obtain ⟨c0, c1⟩ := Hbx.out.cells.c2
      simp only [Nat.zero_add] at c1
      have f0 := Hbx.out.free 0
      have f1 := Hbx.out.free 1
      have hS1 := (hHeld.setCell (p := ⟨b28, 0, none⟩) hlo (.slice pc 0 qc)).setCell (p := ⟨b28, 1, none⟩) hlo (.slice pd 0 qd)
      refine allSkip (w' := (we5.setCell ⟨b28, 0, none⟩ (.slice pc 0 qc)).setCell ⟨b28, 1, none⟩ (.slice pd 0 qd)) rfl (by kernel_rfl) (by go_simp) hS1 ?_ AllReadyH.nil
      generalize (we5.setCell ⟨b28, 0, none⟩ (.slice pc 0 qc)).setCell ⟨b28, 1, none⟩ (.slice pd 0 qd) = wy at *
      clear c0 c1 f0 f1
      have hHeld := hS1
      try simp only [Act.put, List.getElem_toArray, List.getElem_cons_succ, List.getElem_cons_zero, List.setIfInBounds_toArray, List.set_cons_zero, List.set_cons_succ]
      refine wpAnyH_take (i := 8) (v := .int .i64 2) rfl (by kernel_rfl) (by kernel_rfl) (by kernel_rfl) (fun _ _ _ h => h) (Or.inl ⟨by rfl, ?_⟩) hHeld ?_
      · intro w' hSw; go_simp
      try simp only [Act.put, List.getElem_toArray, List.getElem_cons_succ, List.getElem_cons_zero, List.setIfInBounds_toArray, List.set_cons_zero, List.set_cons_succ]
      refine wpAnyH_done (by kernel_rfl) ?_ _
      exact ⟨hHeld, _, _, _, _, _, _, _, rfl⟩
    refine allVal (v := .pointer (some ⟨wd.heap.size, 0, none⟩)) (w' := wd.alloc (.cells #[.slice none 0 0, .slice none 0 0] 34)) rfl (by kernel_rfl) (by go_simp) (hHeld.alloc hHeld.size _) ?_ AllReadyH.nil
    try simp only [Act.put, List.getElem_toArray, List.getElem_cons_succ, List.getElem_cons_zero, List.setIfInBounds_toArray, List.set_cons_zero, List.set_cons_succ]
    have hB := alloc_below wd (.cells #[.slice none 0 0, .slice none 0 0] 34)
    have hbk := Blk.new wd [.slice none 0 0, .slice none 0 0] 34 rfl
    have hlo : w189.heap.size ≤ wd.heap.size := hHeld.size
    generalize wd.alloc (.cells #[.slice none 0 0, .slice none 0 0] 34) = we6 at *
    obtain ⟨b28, eb28⟩ : ∃ b, b = wd.heap.size := ⟨_, rfl⟩
    rw [← eb28] at hbk hlo ⊢
    clear eb28
    have hHeld2 := hHeld.trans (hB.mono hHeld.size)
    clear hHeld
    have hHeld := hHeld2
    clear hHeld2
    have Hbx := Lib.hid hbk
    clear hbk hB
    refine wpAnyH_ready (rs := [0]) (by kernel_rfl) (by simp) ?_
    refine allCall (f := 48) (args := #[]) rfl (by kernel_rfl) (by kernel_rfl) ?_ AllReadyH.nil
    refine one_P we6 _ (fun we7 v hB hV => ?_)
    obtain ⟨pa, qa, pb, qb, rfl, hV⟩ := hV
    refine ⟨_, rfl, hHeld.trans (hB.mono hHeld.size), ?_⟩
    have hHeld2 := hHeld.trans (hB.mono hHeld.size)
    clear hHeld
    have hHeld := hHeld2
    clear hHeld2
    replace Hbx := Lib.hid (Hbx.out.below hB Hbx.out.lt)
    have Hone := Lib.hid (show (Pd.rel _ _).says _ _ from ⟨_, _, _, _, rfl, hV⟩)
    clear hB hV
    try simp only [Act.put, List.getElem_toArray, List.getElem_cons_succ, List.getElem_cons_zero, List.setIfInBounds_toArray, List.set_cons_zero, List.set_cons_succ]
    refine wpAnyH_ready (rs := [2]) (by kernel_rfl) (by simp) ?_
    refine allCall (f := 41) (args := #[.agg #[.slice pa 2 qa, .slice pb oneR.length qb], .agg #[.slice (some ⟨w176.heap.size, 0, none⟩) 1 1, .slice (some ⟨wc184.heap.size, 0, none⟩) 2 2]]) rfl (by kernel_rfl) (by kernel_rfl) ?_ AllReadyH.nil
    refine Join_K (relH Hone.out) (Hv27.out.rel.below hHeld) (by decide) (e := 2) (co := []) (lo := []) (by decide +kernel) (by decide +kernel) (by decide +kernel) _ (fun we8 v hB hV => ?_)
    obtain ⟨pc, qc, pd, qd, rfl, hV⟩ := hV
    refine ⟨_, rfl, hHeld.trans (hB.mono hHeld.size), ?_⟩
    have hHeld2 := hHeld.trans (hB.mono hHeld.size)
    clear hHeld
    have hHeld := hHeld2
    clear hHeld2
    replace Hbx := Lib.hid (Hbx.out.below hB Hbx.out.lt)
    clear hB hV Hone
    try simp only [Act.put, List.getElem_toArray, List.getElem_cons_succ, List.getElem_cons_zero, List.setIfInBounds_toArray, List.set_cons_zero, List.set_cons_succ]
    refine wpAnyH_take (i := 3) (v := .tuple #[.agg #[.slice pc 0 qc, .slice pd 0 qd], .int .i64 2]) rfl (by kernel_rfl) (by kernel_rfl) (by kernel_rfl) (fun _ _ _ h => h) (Or.inl ⟨by rfl, ?_⟩) hHeld ?_
    · intro w' hSw; go_simp
    try simp only [Act.put, List.getElem_toArray, List.getElem_cons_succ, List.getElem_cons_zero, List.setIfInBounds_toArray, List.set_cons_zero, List.set_cons_succ]
    refine wpAnyH_take (i := 4) (v := .agg #[.slice pc 0 qc, .slice pd 0 qd]) rfl (by kernel_rfl) (by kernel_rfl) (by kernel_rfl) (fun _ _ _ h => h) (Or.inl ⟨by rfl, ?_⟩) hHeld ?_
    · intro w' hSw; go_simp
    try simp only [Act.put, List.getElem_toArray, List.getElem_cons_succ, List.getElem_cons_zero, List.setIfInBounds_toArray, List.set_cons_zero, List.set_cons_succ]
    refine wpAnyH_take (i := 5) (v := .int .i64 2) rfl (by kernel_rfl) (by kernel_rfl) (by kernel_rfl) (fun _ _ _ h => h) (Or.inl ⟨by rfl, ?_⟩) hHeld ?_
    · intro w' hSw; go_simp
    try simp only [Act.put, List.getElem_toArray, List.getElem_cons_succ, List.getElem_cons_zero, List.setIfInBounds_toArray, List.set_cons_zero, List.set_cons_succ]
    refine wpAnyH_ready (rs := [7]) (by kernel_rfl) (by simp) ?_
    obtain ⟨c0, c1⟩ := Hbx.out.cells.c2
    simp only [Nat.zero_add] at c1
    have f0 := Hbx.out.free 0
    have f1 := Hbx.out.free 1
    have hS1 := (hHeld.setCell (p := ⟨b28, 0, none⟩) hlo (.slice pc 0 qc)).setCell (p := ⟨b28, 1, none⟩) hlo (.slice pd 0 qd)
    refine allSkip (w' := (we8.setCell ⟨b28, 0, none⟩ (.slice pc 0 qc)).setCell ⟨b28, 1, none⟩ (.slice pd 0 qd)) rfl (by kernel_rfl) (by go_simp) hS1 ?_ AllReadyH.nil
    generalize (we8.setCell ⟨b28, 0, none⟩ (.slice pc 0 qc)).setCell ⟨b28, 1, none⟩ (.slice pd 0 qd) = wy at *
    clear c0 c1 f0 f1
    have hHeld := hS1
    try simp only [Act.put, List.getElem_toArray, List.getElem_cons_succ, List.getElem_cons_zero, List.setIfInBounds_toArray, List.set_cons_zero, List.set_cons_succ]
    refine wpAnyH_take (i := 8) (v := .int .i64 2) rfl (by kernel_rfl) (by kernel_rfl) (by kernel_rfl) (fun _ _ _ h => h) (Or.inl ⟨by rfl, ?_⟩) hHeld ?_
    · intro w' hSw; go_simp
    try simp only [Act.put, List.getElem_toArray, List.getElem_cons_succ, List.getElem_cons_zero, List.setIfInBounds_toArray, List.set_cons_zero, List.set_cons_succ]
    refine wpAnyH_done (by kernel_rfl) ?_ _
    exact ⟨hHeld, _, _, _, _, _, _, _, rfl⟩
  rintro a' wy ⟨hB, u205, u206, u207, u204, u208, u209, u28, rfl⟩
  try simp only [Act.put, List.getElem_toArray, List.getElem_cons_succ, List.getElem_cons_zero, List.setIfInBounds_toArray, List.set_cons_zero, List.set_cons_succ]
  replace HB := Lib.hid (HB.out.trans (hB.mono HB.out.size))
  replace Hv27 := Lib.hid (Hv27.out.below hB)
  clear hB
  go_wp2_with fail
  refine wp_region_steps wy (Pds [.rel [[120]] [[2].map rowV, [1].map rowV], .const (.bool false), .const (.bool true), .const (.bool true), .rel [[120], [121]] oneR, .const (.bool true), .const (.bool true), .const (.bool true), .rel [] [], .const (.bool true), .const (.bool true), .const (.bool true), .const (.int .i64 2), .const (.bool true), .const (.bool true), .const (.bool true), .rel [[120], [121]] oneR, .ints [2, 2], .row ([2, 2].map rowV), .const (.bool true), .const (.bool true), .const (.bool true), .rel [[120], [121]] oneR, .ints [2], .row ([2].map rowV), .const (.bool false), .const (.bool true), .const (.bool true), .const (.bool true), .rel [[120]] [[2].map rowV, [1].map rowV], .ints [1], .row ([1].map rowV), .const (.bool false), .const (.bool true), .const (.bool true), .const (.bool true), .ints [1], .row ([1].map rowV), .ints [1, 1], .row ([1, 1].map rowV), .const (.int .i64 (-1)), .const (.bool true), .const (.bool true), .const (.bool true), .const (.int .i64 0), .const (.bool true), .const (.bool true), .const (.bool true)]) 48 [(0, 210), (1, 211), (2, 212), (3, 213), (4, 214), (5, 215), (6, 216), (7, 217), (8, 218), (9, 219), (10, 220), (11, 221), (12, 222), (13, 223), (14, 224), (15, 225), (16, 226), (17, 227), (18, 228), (19, 229), (20, 230), (21, 231), (22, 232), (23, 233), (24, 234), (25, 235), (26, 236), (27, 237), (28, 238), (29, 239), (30, 240), (31, 241), (32, 242), (33, 243), (34, 244), (35, 245), (36, 246), (37, 247), (38, 248), (39, 249), (40, 250), (41, 251), (42, 252), (43, 253), (44, 254), (45, 255), (46, 256), (47, 30)] (by kernel_rfl) (by kernel_rfl) (by kernel_rfl) (by kernel_rfl) (by kernel_rfl) Pds.step ⟨?_, ?_, ?_, ?_, ?_, ?_, ?_, ?_, ?_, ?_, ?_, ?_, ?_, ?_, ?_, ?_, ?_, ?_, ?_, ?_, ?_, ?_, ?_, ?_, ?_, ?_, ?_, ?_, ?_, ?_, ?_, ?_, ?_, ?_, ?_, ?_, ?_, ?_, ?_, ?_, ?_, ?_, ?_, ?_, ?_, ?_, ?_, ?_, trivial⟩ (fun vals wz hB hV => ?_)
  · refine StepAt.mk rfl [] (by kernel_rfl) (by kernel_rfl) (fun vals w5 hB hD => ?_)
    clear hD
    simp only [List.foldl_nil]
    try simp only [Act.put, List.getElem_toArray, List.getElem_cons_succ, List.getElem_cons_zero, List.setIfInBounds_toArray, List.set_cons_zero, List.set_cons_succ]
    obtain ⟨c0, c1⟩ := (Hv27.out.blk.below hB Hv27.out.blk.lt).cells.c2
    simp only [Nat.zero_add] at c1
    exact OpStep.val (v := .agg #[.slice (some ⟨w176.heap.size, 0, none⟩) 1 1, .slice (some ⟨wc184.heap.size, 0, none⟩) 2 2]) (w' := w5) (by go_simp) (by kernel_rfl) (Below.refl _ _) (show (Pd.rel _ _).says _ _ from ⟨_, _, _, _, rfl, Hv27.out.rel.below hB⟩)
  · refine StepAt.mk rfl [(0, 210)] (by kernel_rfl) (by kernel_rfl) (fun vals w5 hB hD => ?_)
    have d0 := hD (0, 210) (by simp)
    clear hD
    simp only [List.foldl_cons] at *
    simp only [List.foldl_nil]
    generalize vals 0 = x0 at *
    change (Pd.rel [[120]] [[2].map rowV, [1].map rowV]).says x0 w5 at d0
    obtain ⟨pa0, qa0, pb0, qb0, rfl, d0⟩ := d0
    try simp only [Act.put, List.getElem_toArray, List.getElem_cons_succ, List.getElem_cons_zero, List.setIfInBounds_toArray, List.set_cons_zero, List.set_cons_succ]
    refine OpStep.call (f := 38) (args := #[.agg #[.slice pa0 ([[120]] : List S).length qa0, .slice pb0 ([[2].map rowV, [1].map rowV] : List (List V)).length qb0]]) (by kernel_rfl) (by kernel_rfl) ?_
    exact May_K d0 (by decide +kernel) _ (fun w6 hB6 => ⟨_, rfl, hB6, rfl⟩)
  · refine StepAt.mk rfl [(1, 211)] (by kernel_rfl) (by kernel_rfl) (fun vals w5 hB hD => ?_)
    have d1 := hD (1, 211) (by simp)
    clear hD
    simp only [List.foldl_cons] at *
    simp only [List.foldl_nil]
    generalize vals 1 = x1 at *
    change x1 = .bool false at d1
    subst d1
    try simp only [Act.put, List.getElem_toArray, List.getElem_cons_succ, List.getElem_cons_zero, List.setIfInBounds_toArray, List.set_cons_zero, List.set_cons_succ]
    exact OpStep.val (v := .bool true) (w' := w5) (by go_simp) (by kernel_rfl) (Below.refl _ _) rfl
  · refine StepAt.mk rfl [(2, 212)] (by kernel_rfl) (by kernel_rfl) (fun vals w5 hB hD => ?_)
    have d2 := hD (2, 212) (by simp)
    clear hD
    simp only [List.foldl_cons] at *
    simp only [List.foldl_nil]
    generalize vals 2 = x2 at *
    change x2 = .bool true at d2
    subst d2
    try simp only [Act.put, List.getElem_toArray, List.getElem_cons_succ, List.getElem_cons_zero, List.setIfInBounds_toArray, List.set_cons_zero, List.set_cons_succ]
    exact OpStep.val (v := .bool true) (w' := w5) (by go_simp) (by kernel_rfl) (Below.refl _ _) rfl
  · refine StepAt.mk rfl [(3, 213)] (by kernel_rfl) (by kernel_rfl) (fun vals w5 hB hD => ?_)
    have d3 := hD (3, 213) (by simp)
    clear hD
    simp only [List.foldl_cons] at *
    simp only [List.foldl_nil]
    generalize vals 3 = x3 at *
    change x3 = .bool true at d3
    subst d3
    try simp only [Act.put, List.getElem_toArray, List.getElem_cons_succ, List.getElem_cons_zero, List.setIfInBounds_toArray, List.set_cons_zero, List.set_cons_succ]
    refine OpStep.call (f := 48) (args := #[]) (by kernel_rfl) (by kernel_rfl) ?_
    exact one_P w5 _ (fun w6 v hB6 hV => ⟨v, rfl, hB6, hV⟩)
  · refine StepAt.mk rfl [(3, 213), (4, 214)] (by kernel_rfl) (by kernel_rfl) (fun vals w5 hB hD => ?_)
    have d3 := hD (3, 213) (by simp)
    have d4 := hD (4, 214) (by simp)
    clear hD
    simp only [List.foldl_cons] at *
    simp only [List.foldl_nil]
    generalize vals 3 = x3 at *
    change x3 = .bool true at d3
    subst d3
    generalize vals 4 = x4 at *
    change (Pd.rel [[120], [121]] oneR).says x4 w5 at d4
    obtain ⟨pa4, qa4, pb4, qb4, rfl, d4⟩ := d4
    try simp only [Act.put, List.getElem_toArray, List.getElem_cons_succ, List.getElem_cons_zero, List.setIfInBounds_toArray, List.set_cons_zero, List.set_cons_succ]
    refine OpStep.call (f := 38) (args := #[.agg #[.slice pa4 ([[120], [121]] : List S).length qa4, .slice pb4 (oneR : List (List V)).length qb4]]) (by kernel_rfl) (by kernel_rfl) ?_
    exact May_K d4 (by decide +kernel) _ (fun w6 hB6 => ⟨_, rfl, hB6, rfl⟩)
  · refine StepAt.mk rfl [(3, 213), (5, 215)] (by kernel_rfl) (by kernel_rfl) (fun vals w5 hB hD => ?_)
    have d3 := hD (3, 213) (by simp)
    have d5 := hD (5, 215) (by simp)
    clear hD
    simp only [List.foldl_cons] at *
    simp only [List.foldl_nil]
    generalize vals 3 = x3 at *
    change x3 = .bool true at d3
    subst d3
    generalize vals 5 = x5 at *
    change x5 = .bool true at d5
    subst d5
    try simp only [Act.put, List.getElem_toArray, List.getElem_cons_succ, List.getElem_cons_zero, List.setIfInBounds_toArray, List.set_cons_zero, List.set_cons_succ]
    exact OpStep.val (v := .bool true) (w' := w5) (by go_simp) (by kernel_rfl) (Below.refl _ _) rfl
  · refine StepAt.mk rfl [(6, 216)] (by kernel_rfl) (by kernel_rfl) (fun vals w5 hB hD => ?_)
    have d6 := hD (6, 216) (by simp)
    clear hD
    simp only [List.foldl_cons] at *
    simp only [List.foldl_nil]
    generalize vals 6 = x6 at *
    change x6 = .bool true at d6
    subst d6
    try simp only [Act.put, List.getElem_toArray, List.getElem_cons_succ, List.getElem_cons_zero, List.setIfInBounds_toArray, List.set_cons_zero, List.set_cons_succ]
    exact OpStep.val (v := .bool true) (w' := w5) (by go_simp) (by kernel_rfl) (Below.refl _ _) rfl
  · refine StepAt.mk rfl [(7, 217)] (by kernel_rfl) (by kernel_rfl) (fun vals w5 hB hD => ?_)
    have d7 := hD (7, 217) (by simp)
    clear hD
    simp only [List.foldl_cons] at *
    simp only [List.foldl_nil]
    generalize vals 7 = x7 at *
    change x7 = .bool true at d7
    subst d7
    try simp only [Act.put, List.getElem_toArray, List.getElem_cons_succ, List.getElem_cons_zero, List.setIfInBounds_toArray, List.set_cons_zero, List.set_cons_succ]
    exact OpStep.val (v := .agg #[.slice none 0 0, .slice none 0 0]) (w' := w5) (by go_simp) (by kernel_rfl) (Below.refl _ _) (show (Pd.rel [] []).says _ _ from ⟨none, 0, none, 0, rfl, ⟨Sl.nil _ _ _ _ _, Sl.nil _ _ _ _ _⟩⟩)
  · refine StepAt.mk rfl [(7, 217), (8, 218)] (by kernel_rfl) (by kernel_rfl) (fun vals w5 hB hD => ?_)
    have d7 := hD (7, 217) (by simp)
    have d8 := hD (8, 218) (by simp)
    clear hD
    simp only [List.foldl_cons] at *
    simp only [List.foldl_nil]
    generalize vals 7 = x7 at *
    change x7 = .bool true at d7
    subst d7
    generalize vals 8 = x8 at *
    change (Pd.rel [] []).says x8 w5 at d8
    obtain ⟨pa8, qa8, pb8, qb8, rfl, d8⟩ := d8
    try simp only [Act.put, List.getElem_toArray, List.getElem_cons_succ, List.getElem_cons_zero, List.setIfInBounds_toArray, List.set_cons_zero, List.set_cons_succ]
    refine OpStep.call (f := 38) (args := #[.agg #[.slice pa8 ([] : List S).length qa8, .slice pb8 ([] : List (List V)).length qb8]]) (by kernel_rfl) (by kernel_rfl) ?_
    exact May_K d8 (by decide +kernel) _ (fun w6 hB6 => ⟨_, rfl, hB6, rfl⟩)
  · refine StepAt.mk rfl [(7, 217), (9, 219)] (by kernel_rfl) (by kernel_rfl) (fun vals w5 hB hD => ?_)
    have d7 := hD (7, 217) (by simp)
    have d9 := hD (9, 219) (by simp)
    clear hD
    simp only [List.foldl_cons] at *
    simp only [List.foldl_nil]
    generalize vals 7 = x7 at *
    change x7 = .bool true at d7
    subst d7
    generalize vals 9 = x9 at *
    change x9 = .bool true at d9
    subst d9
    try simp only [Act.put, List.getElem_toArray, List.getElem_cons_succ, List.getElem_cons_zero, List.setIfInBounds_toArray, List.set_cons_zero, List.set_cons_succ]
    exact OpStep.val (v := .bool true) (w' := w5) (by go_simp) (by kernel_rfl) (Below.refl _ _) rfl
  · refine StepAt.mk rfl [(10, 220)] (by kernel_rfl) (by kernel_rfl) (fun vals w5 hB hD => ?_)
    have d10 := hD (10, 220) (by simp)
    clear hD
    simp only [List.foldl_cons] at *
    simp only [List.foldl_nil]
    generalize vals 10 = x10 at *
    change x10 = .bool true at d10
    subst d10
    try simp only [Act.put, List.getElem_toArray, List.getElem_cons_succ, List.getElem_cons_zero, List.setIfInBounds_toArray, List.set_cons_zero, List.set_cons_succ]
    exact OpStep.val (v := .bool true) (w' := w5) (by go_simp) (by kernel_rfl) (Below.refl _ _) rfl
  · refine StepAt.mk rfl [(11, 221)] (by kernel_rfl) (by kernel_rfl) (fun vals w5 hB hD => ?_)
    have d11 := hD (11, 221) (by simp)
    clear hD
    simp only [List.foldl_cons] at *
    simp only [List.foldl_nil]
    generalize vals 11 = x11 at *
    change x11 = .bool true at d11
    subst d11
    try simp only [Act.put, List.getElem_toArray, List.getElem_cons_succ, List.getElem_cons_zero, List.setIfInBounds_toArray, List.set_cons_zero, List.set_cons_succ]
    exact OpStep.val (v := .int .i64 2) (w' := w5) (by go_simp) (by kernel_rfl) (Below.refl _ _) rfl
  · refine StepAt.mk rfl [(11, 221), (12, 222)] (by kernel_rfl) (by kernel_rfl) (fun vals w5 hB hD => ?_)
    have d11 := hD (11, 221) (by simp)
    have d12 := hD (12, 222) (by simp)
    clear hD
    simp only [List.foldl_cons] at *
    simp only [List.foldl_nil]
    generalize vals 11 = x11 at *
    change x11 = .bool true at d11
    subst d11
    generalize vals 12 = x12 at *
    change x12 = .int .i64 2 at d12
    subst d12
    try simp only [Act.put, List.getElem_toArray, List.getElem_cons_succ, List.getElem_cons_zero, List.setIfInBounds_toArray, List.set_cons_zero, List.set_cons_succ]
    exact OpStep.val (v := .bool true) (w' := w5) (by go_simp) (by kernel_rfl) (Below.refl _ _) rfl
  · refine StepAt.mk rfl [(11, 221), (13, 223)] (by kernel_rfl) (by kernel_rfl) (fun vals w5 hB hD => ?_)
    have d11 := hD (11, 221) (by simp)
    have d13 := hD (13, 223) (by simp)
    clear hD
    simp only [List.foldl_cons] at *
    simp only [List.foldl_nil]
    generalize vals 11 = x11 at *
    change x11 = .bool true at d11
    subst d11
    generalize vals 13 = x13 at *
    change x13 = .bool true at d13
    subst d13
    try simp only [Act.put, List.getElem_toArray, List.getElem_cons_succ, List.getElem_cons_zero, List.setIfInBounds_toArray, List.set_cons_zero, List.set_cons_succ]
    exact OpStep.val (v := .bool true) (w' := w5) (by go_simp) (by kernel_rfl) (Below.refl _ _) rfl
  · refine StepAt.mk rfl [(14, 224)] (by kernel_rfl) (by kernel_rfl) (fun vals w5 hB hD => ?_)
    have d14 := hD (14, 224) (by simp)
    clear hD
    simp only [List.foldl_cons] at *
    simp only [List.foldl_nil]
    generalize vals 14 = x14 at *
    change x14 = .bool true at d14
    subst d14
    try simp only [Act.put, List.getElem_toArray, List.getElem_cons_succ, List.getElem_cons_zero, List.setIfInBounds_toArray, List.set_cons_zero, List.set_cons_succ]
    exact OpStep.val (v := .bool true) (w' := w5) (by go_simp) (by kernel_rfl) (Below.refl _ _) rfl
  · refine StepAt.mk rfl [(15, 225)] (by kernel_rfl) (by kernel_rfl) (fun vals w5 hB hD => ?_)
    have d15 := hD (15, 225) (by simp)
    clear hD
    simp only [List.foldl_cons] at *
    simp only [List.foldl_nil]
    generalize vals 15 = x15 at *
    change x15 = .bool true at d15
    subst d15
    try simp only [Act.put, List.getElem_toArray, List.getElem_cons_succ, List.getElem_cons_zero, List.setIfInBounds_toArray, List.set_cons_zero, List.set_cons_succ]
    refine OpStep.call (f := 48) (args := #[]) (by kernel_rfl) (by kernel_rfl) ?_
    exact one_P w5 _ (fun w6 v hB6 hV => ⟨v, rfl, hB6, hV⟩)
  · refine StepAt.mk rfl [(15, 225)] (by kernel_rfl) (by kernel_rfl) (fun vals w5 hB hD => ?_)
    have d15 := hD (15, 225) (by simp)
    clear hD
    simp only [List.foldl_cons] at *
    simp only [List.foldl_nil]
    generalize vals 15 = x15 at *
    change x15 = .bool true at d15
    subst d15
    try simp only [Act.put, List.getElem_toArray, List.getElem_cons_succ, List.getElem_cons_zero, List.setIfInBounds_toArray, List.set_cons_zero, List.set_cons_succ]
    exact OpStep.val (v := .slice (some ⟨w5.heap.size, 0, none⟩) 2 2) (w' := w5.alloc (.cells #[.int .i64 2, .int .i64 2] 2)) (by go_simp) (by kernel_rfl) (alloc_below _ _) (Pd.intsLit w5 [2, 2] (by decide) rfl)
  · refine StepAt.mk rfl [(15, 225), (17, 227)] (by kernel_rfl) (by kernel_rfl) (fun vals w5 hB hD => ?_)
    have d15 := hD (15, 225) (by simp)
    have d17 := hD (17, 227) (by simp)
    clear hD
    simp only [List.foldl_cons] at *
    simp only [List.foldl_nil]
    generalize vals 15 = x15 at *
    change x15 = .bool true at d15
    subst d15
    generalize vals 17 = x17 at *
    change (Pd.ints [2, 2]).says x17 w5 at d17
    obtain ⟨p17, q17, rfl⟩ := Pd.form_ints d17
    try simp only [Act.put, List.getElem_toArray, List.getElem_cons_succ, List.getElem_cons_zero, List.setIfInBounds_toArray, List.set_cons_zero, List.set_cons_succ]
    refine OpStep.call (f := 51) (args := #[.slice p17 2 q17]) (by kernel_rfl) (by kernel_rfl) ?_
    exact row_P d17 (by decide) (by decide) _ (fun w6 v hB6 hV => ⟨v, rfl, hB6, hV⟩)
  · refine StepAt.mk rfl [(15, 225), (16, 226), (18, 228)] (by kernel_rfl) (by kernel_rfl) (fun vals w5 hB hD => ?_)
    have d15 := hD (15, 225) (by simp)
    have d16 := hD (16, 226) (by simp)
    have d18 := hD (18, 228) (by simp)
    clear hD
    simp only [List.foldl_cons] at *
    simp only [List.foldl_nil]
    generalize vals 15 = x15 at *
    change x15 = .bool true at d15
    subst d15
    generalize vals 16 = x16 at *
    change (Pd.rel [[120], [121]] oneR).says x16 w5 at d16
    obtain ⟨pa16, qa16, pb16, qb16, rfl, d16⟩ := d16
    generalize vals 18 = x18 at *
    change (Pd.row ([2, 2].map rowV)).says x18 w5 at d18
    obtain ⟨p18, q18, rfl⟩ := Pd.form_row d18
    try simp only [Act.put, List.getElem_toArray, List.getElem_cons_succ, List.getElem_cons_zero, List.setIfInBounds_toArray, List.set_cons_zero, List.set_cons_succ]
    refine OpStep.call (f := 39) (args := #[.agg #[.slice pa16 ([[120], [121]] : List S).length qa16, .slice pb16 (oneR : List (List V)).length qb16], .slice p18 2 q18]) (by kernel_rfl) (by kernel_rfl) ?_
    exact Has_K d16 (x := ([2, 2].map rowV)) d18 (by decide +kernel) _ (fun w6 hB6 => ⟨_, rfl, hB6, rfl⟩)
  · refine StepAt.mk rfl [(15, 225), (19, 229)] (by kernel_rfl) (by kernel_rfl) (fun vals w5 hB hD => ?_)
    have d15 := hD (15, 225) (by simp)
    have d19 := hD (19, 229) (by simp)
    clear hD
    simp only [List.foldl_cons] at *
    simp only [List.foldl_nil]
    generalize vals 15 = x15 at *
    change x15 = .bool true at d15
    subst d15
    generalize vals 19 = x19 at *
    change x19 = .bool true at d19
    subst d19
    try simp only [Act.put, List.getElem_toArray, List.getElem_cons_succ, List.getElem_cons_zero, List.setIfInBounds_toArray, List.set_cons_zero, List.set_cons_succ]
    exact OpStep.val (v := .bool true) (w' := w5) (by go_simp) (by kernel_rfl) (Below.refl _ _) rfl
  · refine StepAt.mk rfl [(20, 230)] (by kernel_rfl) (by kernel_rfl) (fun vals w5 hB hD => ?_)
    have d20 := hD (20, 230) (by simp)
    clear hD
    simp only [List.foldl_cons] at *
    simp only [List.foldl_nil]
    generalize vals 20 = x20 at *
    change x20 = .bool true at d20
    subst d20
    try simp only [Act.put, List.getElem_toArray, List.getElem_cons_succ, List.getElem_cons_zero, List.setIfInBounds_toArray, List.set_cons_zero, List.set_cons_succ]
    exact OpStep.val (v := .bool true) (w' := w5) (by go_simp) (by kernel_rfl) (Below.refl _ _) rfl
  · refine StepAt.mk rfl [(21, 231)] (by kernel_rfl) (by kernel_rfl) (fun vals w5 hB hD => ?_)
    have d21 := hD (21, 231) (by simp)
    clear hD
    simp only [List.foldl_cons] at *
    simp only [List.foldl_nil]
    generalize vals 21 = x21 at *
    change x21 = .bool true at d21
    subst d21
    try simp only [Act.put, List.getElem_toArray, List.getElem_cons_succ, List.getElem_cons_zero, List.setIfInBounds_toArray, List.set_cons_zero, List.set_cons_succ]
    refine OpStep.call (f := 48) (args := #[]) (by kernel_rfl) (by kernel_rfl) ?_
    exact one_P w5 _ (fun w6 v hB6 hV => ⟨v, rfl, hB6, hV⟩)
  · refine StepAt.mk rfl [(21, 231)] (by kernel_rfl) (by kernel_rfl) (fun vals w5 hB hD => ?_)
    have d21 := hD (21, 231) (by simp)
    clear hD
    simp only [List.foldl_cons] at *
    simp only [List.foldl_nil]
    generalize vals 21 = x21 at *
    change x21 = .bool true at d21
    subst d21
    try simp only [Act.put, List.getElem_toArray, List.getElem_cons_succ, List.getElem_cons_zero, List.setIfInBounds_toArray, List.set_cons_zero, List.set_cons_succ]
    exact OpStep.val (v := .slice (some ⟨w5.heap.size, 0, none⟩) 1 1) (w' := w5.alloc (.cells #[.int .i64 2] 2)) (by go_simp) (by kernel_rfl) (alloc_below _ _) (Pd.intsLit w5 [2] (by decide) rfl)
  · refine StepAt.mk rfl [(21, 231), (23, 233)] (by kernel_rfl) (by kernel_rfl) (fun vals w5 hB hD => ?_)
    have d21 := hD (21, 231) (by simp)
    have d23 := hD (23, 233) (by simp)
    clear hD
    simp only [List.foldl_cons] at *
    simp only [List.foldl_nil]
    generalize vals 21 = x21 at *
    change x21 = .bool true at d21
    subst d21
    generalize vals 23 = x23 at *
    change (Pd.ints [2]).says x23 w5 at d23
    obtain ⟨p23, q23, rfl⟩ := Pd.form_ints d23
    try simp only [Act.put, List.getElem_toArray, List.getElem_cons_succ, List.getElem_cons_zero, List.setIfInBounds_toArray, List.set_cons_zero, List.set_cons_succ]
    refine OpStep.call (f := 51) (args := #[.slice p23 1 q23]) (by kernel_rfl) (by kernel_rfl) ?_
    exact row_P d23 (by decide) (by decide) _ (fun w6 v hB6 hV => ⟨v, rfl, hB6, hV⟩)
  · refine StepAt.mk rfl [(21, 231), (22, 232), (24, 234)] (by kernel_rfl) (by kernel_rfl) (fun vals w5 hB hD => ?_)
    have d21 := hD (21, 231) (by simp)
    have d22 := hD (22, 232) (by simp)
    have d24 := hD (24, 234) (by simp)
    clear hD
    simp only [List.foldl_cons] at *
    simp only [List.foldl_nil]
    generalize vals 21 = x21 at *
    change x21 = .bool true at d21
    subst d21
    generalize vals 22 = x22 at *
    change (Pd.rel [[120], [121]] oneR).says x22 w5 at d22
    obtain ⟨pa22, qa22, pb22, qb22, rfl, d22⟩ := d22
    generalize vals 24 = x24 at *
    change (Pd.row ([2].map rowV)).says x24 w5 at d24
    obtain ⟨p24, q24, rfl⟩ := Pd.form_row d24
    try simp only [Act.put, List.getElem_toArray, List.getElem_cons_succ, List.getElem_cons_zero, List.setIfInBounds_toArray, List.set_cons_zero, List.set_cons_succ]
    refine OpStep.call (f := 39) (args := #[.agg #[.slice pa22 ([[120], [121]] : List S).length qa22, .slice pb22 (oneR : List (List V)).length qb22], .slice p24 1 q24]) (by kernel_rfl) (by kernel_rfl) ?_
    exact Has_K d22 (x := ([2].map rowV)) d24 (by decide +kernel) _ (fun w6 hB6 => ⟨_, rfl, hB6, rfl⟩)
  · refine StepAt.mk rfl [(21, 231), (25, 235)] (by kernel_rfl) (by kernel_rfl) (fun vals w5 hB hD => ?_)
    have d21 := hD (21, 231) (by simp)
    have d25 := hD (25, 235) (by simp)
    clear hD
    simp only [List.foldl_cons] at *
    simp only [List.foldl_nil]
    generalize vals 21 = x21 at *
    change x21 = .bool true at d21
    subst d21
    generalize vals 25 = x25 at *
    change x25 = .bool false at d25
    subst d25
    try simp only [Act.put, List.getElem_toArray, List.getElem_cons_succ, List.getElem_cons_zero, List.setIfInBounds_toArray, List.set_cons_zero, List.set_cons_succ]
    exact OpStep.val (v := .bool true) (w' := w5) (by go_simp) (by kernel_rfl) (Below.refl _ _) rfl
  · refine StepAt.mk rfl [(21, 231), (26, 236)] (by kernel_rfl) (by kernel_rfl) (fun vals w5 hB hD => ?_)
    have d21 := hD (21, 231) (by simp)
    have d26 := hD (26, 236) (by simp)
    clear hD
    simp only [List.foldl_cons] at *
    simp only [List.foldl_nil]
    generalize vals 21 = x21 at *
    change x21 = .bool true at d21
    subst d21
    generalize vals 26 = x26 at *
    change x26 = .bool true at d26
    subst d26
    try simp only [Act.put, List.getElem_toArray, List.getElem_cons_succ, List.getElem_cons_zero, List.setIfInBounds_toArray, List.set_cons_zero, List.set_cons_succ]
    exact OpStep.val (v := .bool true) (w' := w5) (by go_simp) (by kernel_rfl) (Below.refl _ _) rfl
  · refine StepAt.mk rfl [(27, 237)] (by kernel_rfl) (by kernel_rfl) (fun vals w5 hB hD => ?_)
    have d27 := hD (27, 237) (by simp)
    clear hD
    simp only [List.foldl_cons] at *
    simp only [List.foldl_nil]
    generalize vals 27 = x27 at *
    change x27 = .bool true at d27
    subst d27
    try simp only [Act.put, List.getElem_toArray, List.getElem_cons_succ, List.getElem_cons_zero, List.setIfInBounds_toArray, List.set_cons_zero, List.set_cons_succ]
    exact OpStep.val (v := .bool true) (w' := w5) (by go_simp) (by kernel_rfl) (Below.refl _ _) rfl
  · refine StepAt.mk rfl [(28, 238)] (by kernel_rfl) (by kernel_rfl) (fun vals w5 hB hD => ?_)
    have d28 := hD (28, 238) (by simp)
    clear hD
    simp only [List.foldl_cons] at *
    simp only [List.foldl_nil]
    generalize vals 28 = x28 at *
    change x28 = .bool true at d28
    subst d28
    try simp only [Act.put, List.getElem_toArray, List.getElem_cons_succ, List.getElem_cons_zero, List.setIfInBounds_toArray, List.set_cons_zero, List.set_cons_succ]
    obtain ⟨c0, c1⟩ := (Hv27.out.blk.below hB Hv27.out.blk.lt).cells.c2
    simp only [Nat.zero_add] at c1
    exact OpStep.val (v := .agg #[.slice (some ⟨w176.heap.size, 0, none⟩) 1 1, .slice (some ⟨wc184.heap.size, 0, none⟩) 2 2]) (w' := w5) (by go_simp) (by kernel_rfl) (Below.refl _ _) (show (Pd.rel _ _).says _ _ from ⟨_, _, _, _, rfl, Hv27.out.rel.below hB⟩)
  · refine StepAt.mk rfl [(28, 238)] (by kernel_rfl) (by kernel_rfl) (fun vals w5 hB hD => ?_)
    have d28 := hD (28, 238) (by simp)
    clear hD
    simp only [List.foldl_cons] at *
    simp only [List.foldl_nil]
    generalize vals 28 = x28 at *
    change x28 = .bool true at d28
    subst d28
    try simp only [Act.put, List.getElem_toArray, List.getElem_cons_succ, List.getElem_cons_zero, List.setIfInBounds_toArray, List.set_cons_zero, List.set_cons_succ]
    exact OpStep.val (v := .slice (some ⟨w5.heap.size, 0, none⟩) 1 1) (w' := w5.alloc (.cells #[.int .i64 1] 2)) (by go_simp) (by kernel_rfl) (alloc_below _ _) (Pd.intsLit w5 [1] (by decide) rfl)
  · refine StepAt.mk rfl [(28, 238), (30, 240)] (by kernel_rfl) (by kernel_rfl) (fun vals w5 hB hD => ?_)
    have d28 := hD (28, 238) (by simp)
    have d30 := hD (30, 240) (by simp)
    clear hD
    simp only [List.foldl_cons] at *
    simp only [List.foldl_nil]
    generalize vals 28 = x28 at *
    change x28 = .bool true at d28
    subst d28
    generalize vals 30 = x30 at *
    change (Pd.ints [1]).says x30 w5 at d30
    obtain ⟨p30, q30, rfl⟩ := Pd.form_ints d30
    try simp only [Act.put, List.getElem_toArray, List.getElem_cons_succ, List.getElem_cons_zero, List.setIfInBounds_toArray, List.set_cons_zero, List.set_cons_succ]
    refine OpStep.call (f := 51) (args := #[.slice p30 1 q30]) (by kernel_rfl) (by kernel_rfl) ?_
    exact row_P d30 (by decide) (by decide) _ (fun w6 v hB6 hV => ⟨v, rfl, hB6, hV⟩)
  · refine StepAt.mk rfl [(28, 238), (29, 239), (31, 241)] (by kernel_rfl) (by kernel_rfl) (fun vals w5 hB hD => ?_)
    have d28 := hD (28, 238) (by simp)
    have d29 := hD (29, 239) (by simp)
    have d31 := hD (31, 241) (by simp)
    clear hD
    simp only [List.foldl_cons] at *
    simp only [List.foldl_nil]
    generalize vals 28 = x28 at *
    change x28 = .bool true at d28
    subst d28
    generalize vals 29 = x29 at *
    change (Pd.rel [[120]] [[2].map rowV, [1].map rowV]).says x29 w5 at d29
    obtain ⟨pa29, qa29, pb29, qb29, rfl, d29⟩ := d29
    generalize vals 31 = x31 at *
    change (Pd.row ([1].map rowV)).says x31 w5 at d31
    obtain ⟨p31, q31, rfl⟩ := Pd.form_row d31
    try simp only [Act.put, List.getElem_toArray, List.getElem_cons_succ, List.getElem_cons_zero, List.setIfInBounds_toArray, List.set_cons_zero, List.set_cons_succ]
    refine OpStep.call (f := 39) (args := #[.agg #[.slice pa29 ([[120]] : List S).length qa29, .slice pb29 ([[2].map rowV, [1].map rowV] : List (List V)).length qb29], .slice p31 1 q31]) (by kernel_rfl) (by kernel_rfl) ?_
    exact Has_K d29 (x := ([1].map rowV)) d31 (by decide +kernel) _ (fun w6 hB6 => ⟨_, rfl, hB6, rfl⟩)
  · refine StepAt.mk rfl [(28, 238), (32, 242)] (by kernel_rfl) (by kernel_rfl) (fun vals w5 hB hD => ?_)
    have d28 := hD (28, 238) (by simp)
    have d32 := hD (32, 242) (by simp)
    clear hD
    simp only [List.foldl_cons] at *
    simp only [List.foldl_nil]
    generalize vals 28 = x28 at *
    change x28 = .bool true at d28
    subst d28
    generalize vals 32 = x32 at *
    change x32 = .bool false at d32
    subst d32
    try simp only [Act.put, List.getElem_toArray, List.getElem_cons_succ, List.getElem_cons_zero, List.setIfInBounds_toArray, List.set_cons_zero, List.set_cons_succ]
    exact OpStep.val (v := .bool true) (w' := w5) (by go_simp) (by kernel_rfl) (Below.refl _ _) rfl
  · refine StepAt.mk rfl [(28, 238), (33, 243)] (by kernel_rfl) (by kernel_rfl) (fun vals w5 hB hD => ?_)
    have d28 := hD (28, 238) (by simp)
    have d33 := hD (33, 243) (by simp)
    clear hD
    simp only [List.foldl_cons] at *
    simp only [List.foldl_nil]
    generalize vals 28 = x28 at *
    change x28 = .bool true at d28
    subst d28
    generalize vals 33 = x33 at *
    change x33 = .bool true at d33
    subst d33
    try simp only [Act.put, List.getElem_toArray, List.getElem_cons_succ, List.getElem_cons_zero, List.setIfInBounds_toArray, List.set_cons_zero, List.set_cons_succ]
    exact OpStep.val (v := .bool true) (w' := w5) (by go_simp) (by kernel_rfl) (Below.refl _ _) rfl
  · refine StepAt.mk rfl [(34, 244)] (by kernel_rfl) (by kernel_rfl) (fun vals w5 hB hD => ?_)
    have d34 := hD (34, 244) (by simp)
    clear hD
    simp only [List.foldl_cons] at *
    simp only [List.foldl_nil]
    generalize vals 34 = x34 at *
    change x34 = .bool true at d34
    subst d34
    try simp only [Act.put, List.getElem_toArray, List.getElem_cons_succ, List.getElem_cons_zero, List.setIfInBounds_toArray, List.set_cons_zero, List.set_cons_succ]
    exact OpStep.val (v := .bool true) (w' := w5) (by go_simp) (by kernel_rfl) (Below.refl _ _) rfl
  · refine StepAt.mk rfl [(35, 245)] (by kernel_rfl) (by kernel_rfl) (fun vals w5 hB hD => ?_)
    have d35 := hD (35, 245) (by simp)
    clear hD
    simp only [List.foldl_cons] at *
    simp only [List.foldl_nil]
    generalize vals 35 = x35 at *
    change x35 = .bool true at d35
    subst d35
    try simp only [Act.put, List.getElem_toArray, List.getElem_cons_succ, List.getElem_cons_zero, List.setIfInBounds_toArray, List.set_cons_zero, List.set_cons_succ]
    exact OpStep.val (v := .slice (some ⟨w5.heap.size, 0, none⟩) 1 1) (w' := w5.alloc (.cells #[.int .i64 1] 2)) (by go_simp) (by kernel_rfl) (alloc_below _ _) (Pd.intsLit w5 [1] (by decide) rfl)
  · refine StepAt.mk rfl [(35, 245), (36, 246)] (by kernel_rfl) (by kernel_rfl) (fun vals w5 hB hD => ?_)
    have d35 := hD (35, 245) (by simp)
    have d36 := hD (36, 246) (by simp)
    clear hD
    simp only [List.foldl_cons] at *
    simp only [List.foldl_nil]
    generalize vals 35 = x35 at *
    change x35 = .bool true at d35
    subst d35
    generalize vals 36 = x36 at *
    change (Pd.ints [1]).says x36 w5 at d36
    obtain ⟨p36, q36, rfl⟩ := Pd.form_ints d36
    try simp only [Act.put, List.getElem_toArray, List.getElem_cons_succ, List.getElem_cons_zero, List.setIfInBounds_toArray, List.set_cons_zero, List.set_cons_succ]
    refine OpStep.call (f := 51) (args := #[.slice p36 1 q36]) (by kernel_rfl) (by kernel_rfl) ?_
    exact row_P d36 (by decide) (by decide) _ (fun w6 v hB6 hV => ⟨v, rfl, hB6, hV⟩)
  · refine StepAt.mk rfl [(35, 245)] (by kernel_rfl) (by kernel_rfl) (fun vals w5 hB hD => ?_)
    have d35 := hD (35, 245) (by simp)
    clear hD
    simp only [List.foldl_cons] at *
    simp only [List.foldl_nil]
    generalize vals 35 = x35 at *
    change x35 = .bool true at d35
    subst d35
    try simp only [Act.put, List.getElem_toArray, List.getElem_cons_succ, List.getElem_cons_zero, List.setIfInBounds_toArray, List.set_cons_zero, List.set_cons_succ]
    exact OpStep.val (v := .slice (some ⟨w5.heap.size, 0, none⟩) 2 2) (w' := w5.alloc (.cells #[.int .i64 1, .int .i64 1] 2)) (by go_simp) (by kernel_rfl) (alloc_below _ _) (Pd.intsLit w5 [1, 1] (by decide) rfl)
  · refine StepAt.mk rfl [(35, 245), (38, 248)] (by kernel_rfl) (by kernel_rfl) (fun vals w5 hB hD => ?_)
    have d35 := hD (35, 245) (by simp)
    have d38 := hD (38, 248) (by simp)
    clear hD
    simp only [List.foldl_cons] at *
    simp only [List.foldl_nil]
    generalize vals 35 = x35 at *
    change x35 = .bool true at d35
    subst d35
    generalize vals 38 = x38 at *
    change (Pd.ints [1, 1]).says x38 w5 at d38
    obtain ⟨p38, q38, rfl⟩ := Pd.form_ints d38
    try simp only [Act.put, List.getElem_toArray, List.getElem_cons_succ, List.getElem_cons_zero, List.setIfInBounds_toArray, List.set_cons_zero, List.set_cons_succ]
    refine OpStep.call (f := 51) (args := #[.slice p38 2 q38]) (by kernel_rfl) (by kernel_rfl) ?_
    exact row_P d38 (by decide) (by decide) _ (fun w6 v hB6 hV => ⟨v, rfl, hB6, hV⟩)
  · refine StepAt.mk rfl [(35, 245), (37, 247), (39, 249)] (by kernel_rfl) (by kernel_rfl) (fun vals w5 hB hD => ?_)
    have d35 := hD (35, 245) (by simp)
    have d37 := hD (37, 247) (by simp)
    have d39 := hD (39, 249) (by simp)
    clear hD
    simp only [List.foldl_cons] at *
    simp only [List.foldl_nil]
    generalize vals 35 = x35 at *
    change x35 = .bool true at d35
    subst d35
    generalize vals 37 = x37 at *
    change (Pd.row ([1].map rowV)).says x37 w5 at d37
    obtain ⟨p37, q37, rfl⟩ := Pd.form_row d37
    generalize vals 39 = x39 at *
    change (Pd.row ([1, 1].map rowV)).says x39 w5 at d39
    obtain ⟨p39, q39, rfl⟩ := Pd.form_row d39
    try simp only [Act.put, List.getElem_toArray, List.getElem_cons_succ, List.getElem_cons_zero, List.setIfInBounds_toArray, List.set_cons_zero, List.set_cons_succ]
    refine OpStep.call (f := 24) (args := #[.slice p37 1 q37, .slice p39 2 q39]) (by kernel_rfl) (by kernel_rfl) ?_
    exact Compare_K (x := ([1].map rowV)) (y := ([1, 1].map rowV)) d37 d39 (by decide +kernel) _ (fun w6 hB6 => ⟨_, rfl, hB6, rfl⟩)
  · refine StepAt.mk rfl [(35, 245), (40, 250)] (by kernel_rfl) (by kernel_rfl) (fun vals w5 hB hD => ?_)
    have d35 := hD (35, 245) (by simp)
    have d40 := hD (40, 250) (by simp)
    clear hD
    simp only [List.foldl_cons] at *
    simp only [List.foldl_nil]
    generalize vals 35 = x35 at *
    change x35 = .bool true at d35
    subst d35
    generalize vals 40 = x40 at *
    change x40 = .int .i64 (-1) at d40
    subst d40
    try simp only [Act.put, List.getElem_toArray, List.getElem_cons_succ, List.getElem_cons_zero, List.setIfInBounds_toArray, List.set_cons_zero, List.set_cons_succ]
    exact OpStep.val (v := .bool true) (w' := w5) (by go_simp) (by kernel_rfl) (Below.refl _ _) rfl
  · refine StepAt.mk rfl [(35, 245), (41, 251)] (by kernel_rfl) (by kernel_rfl) (fun vals w5 hB hD => ?_)
    have d35 := hD (35, 245) (by simp)
    have d41 := hD (41, 251) (by simp)
    clear hD
    simp only [List.foldl_cons] at *
    simp only [List.foldl_nil]
    generalize vals 35 = x35 at *
    change x35 = .bool true at d35
    subst d35
    generalize vals 41 = x41 at *
    change x41 = .bool true at d41
    subst d41
    try simp only [Act.put, List.getElem_toArray, List.getElem_cons_succ, List.getElem_cons_zero, List.setIfInBounds_toArray, List.set_cons_zero, List.set_cons_succ]
    exact OpStep.val (v := .bool true) (w' := w5) (by go_simp) (by kernel_rfl) (Below.refl _ _) rfl
  · refine StepAt.mk rfl [(42, 252)] (by kernel_rfl) (by kernel_rfl) (fun vals w5 hB hD => ?_)
    have d42 := hD (42, 252) (by simp)
    clear hD
    simp only [List.foldl_cons] at *
    simp only [List.foldl_nil]
    generalize vals 42 = x42 at *
    change x42 = .bool true at d42
    subst d42
    try simp only [Act.put, List.getElem_toArray, List.getElem_cons_succ, List.getElem_cons_zero, List.setIfInBounds_toArray, List.set_cons_zero, List.set_cons_succ]
    exact OpStep.val (v := .bool true) (w' := w5) (by go_simp) (by kernel_rfl) (Below.refl _ _) rfl
  · refine StepAt.mk rfl [(43, 253)] (by kernel_rfl) (by kernel_rfl) (fun vals w5 hB hD => ?_)
    have d43 := hD (43, 253) (by simp)
    clear hD
    simp only [List.foldl_cons] at *
    simp only [List.foldl_nil]
    generalize vals 43 = x43 at *
    change x43 = .bool true at d43
    subst d43
    try simp only [Act.put, List.getElem_toArray, List.getElem_cons_succ, List.getElem_cons_zero, List.setIfInBounds_toArray, List.set_cons_zero, List.set_cons_succ]
    refine OpStep.call (f := 24) (args := #[.slice none 0 0, .slice none 0 0]) (by kernel_rfl) (by kernel_rfl) ?_
    exact Compare_K (x := []) (y := []) (show (Pd.row []).says (.slice none 0 0) w5 from Sl.nil _ _ _ _ _) (show (Pd.row []).says (.slice none 0 0) w5 from Sl.nil _ _ _ _ _) (by decide +kernel) _ (fun w6 hB6 => ⟨_, rfl, hB6, rfl⟩)
  · refine StepAt.mk rfl [(43, 253), (44, 254)] (by kernel_rfl) (by kernel_rfl) (fun vals w5 hB hD => ?_)
    have d43 := hD (43, 253) (by simp)
    have d44 := hD (44, 254) (by simp)
    clear hD
    simp only [List.foldl_cons] at *
    simp only [List.foldl_nil]
    generalize vals 43 = x43 at *
    change x43 = .bool true at d43
    subst d43
    generalize vals 44 = x44 at *
    change x44 = .int .i64 0 at d44
    subst d44
    try simp only [Act.put, List.getElem_toArray, List.getElem_cons_succ, List.getElem_cons_zero, List.setIfInBounds_toArray, List.set_cons_zero, List.set_cons_succ]
    exact OpStep.val (v := .bool true) (w' := w5) (by go_simp) (by kernel_rfl) (Below.refl _ _) rfl
  · refine StepAt.mk rfl [(43, 253), (45, 255)] (by kernel_rfl) (by kernel_rfl) (fun vals w5 hB hD => ?_)
    have d43 := hD (43, 253) (by simp)
    have d45 := hD (45, 255) (by simp)
    clear hD
    simp only [List.foldl_cons] at *
    simp only [List.foldl_nil]
    generalize vals 43 = x43 at *
    change x43 = .bool true at d43
    subst d43
    generalize vals 45 = x45 at *
    change x45 = .bool true at d45
    subst d45
    try simp only [Act.put, List.getElem_toArray, List.getElem_cons_succ, List.getElem_cons_zero, List.setIfInBounds_toArray, List.set_cons_zero, List.set_cons_succ]
    exact OpStep.val (v := .bool true) (w' := w5) (by go_simp) (by kernel_rfl) (Below.refl _ _) rfl
  · refine StepAt.mk rfl [(46, 256)] (by kernel_rfl) (by kernel_rfl) (fun vals w5 hB hD => ?_)
    have d46 := hD (46, 256) (by simp)
    clear hD
    simp only [List.foldl_cons] at *
    simp only [List.foldl_nil]
    generalize vals 46 = x46 at *
    change x46 = .bool true at d46
    subst d46
    try simp only [Act.put, List.getElem_toArray, List.getElem_cons_succ, List.getElem_cons_zero, List.setIfInBounds_toArray, List.set_cons_zero, List.set_cons_succ]
    exact OpStep.val (v := .bool true) (w' := w5) (by go_simp) (by kernel_rfl) (Below.refl _ _) rfl
  simp only [List.foldl_cons, List.foldl_nil]
  try simp only [Act.put, List.getElem_toArray, List.getElem_cons_succ, List.getElem_cons_zero, List.setIfInBounds_toArray, List.set_cons_zero, List.set_cons_succ]
  have z : vals 47 = .bool true := hV 47 (by decide)
  rw [z]
  clear z hV
  replace HB := Lib.hid (HB.out.trans (hB.mono HB.out.size))
  replace Hv27 := Lib.hid (Hv27.out.below hB)
  clear hB
  clear Hv27
  go_wp2_with fail
  refine alive_P wz _ (fun wc190 hB => ?_)
  replace HB := Lib.hid (HB.out.trans (hB.mono HB.out.size))
  clear hB
  have hr := HR.out wc190 HB.out
  go_wp2_with fail
  first | exact hr | exact fin hr rfl
end Go.Proofs.Ytpncblagjkbemaa
end

/- RowsNames holds outright: the call returns true. It takes no argument, and there is no condition. -/
section
set_option linter.unusedVariables false
set_option linter.unusedSimpArgs false
namespace Go.Proofs.Ytpncblagjkbemaa.rowsNames
open Go.ChangeShapes Go.WideShapes Go.ChangeAt Go.RowKit
open Go.ChangeMaps (open_string shut_string)
set_option linter.unusedVariables false

set_option maxRecDepth 100000 in
theorem contract (H : Type) (enc : TypeId × Value → H) (W : World) (base : Nat) (args : Array Value) (ds gs : List (DataW H)) (before : List MemPlace)
    (hval : ∀ (j : Nat) t v, Try.f11.params[j]? = some t → args[j]? = some v → Value.okWide Try.prog W .any base t v)
    (hW : DataW.Whole enc Try.prog Try.f11.params.toList Rows.rowsNamesSpec.vars false W args.toList ds gs before) :
    Calls Try.prog 11 args W fun e W' => ∃ v, e = .returned v ∧ Rows.rowsNamesSpec.post enc Try.prog Try.f11 false true false false W args v W' := by
  have hW' := hW
  obtain ⟨p, q, hA0, hV, rfl, hfz, hnd⟩ := hW
  have hA : DataW.TrodAll enc Try.prog W 0 (fun _ => true) true Try.f11.params.toList args.toList ds p := hA0
  rw [Try.params11] at hA hval
  have hAk := hA
  obtain ⟨hargs, rfl, rfl⟩ := trodAll_nil hA
  obtain rfl : args = #[] := by cases args; simp_all
  obtain ⟨rfl, rfl⟩ := trodVars_none hV
  clear hA0
  refine RowsNames_any W _ fun W' bel => ?_
  exact ⟨_, rfl, _, _, _, [], _, [], hW', trodAll_mk1 (shut_bool Try.underlying4 _), trodAll_below laidOut bel _ _ _ _ (by kernel_rfl) hAk, rfl, bel.frame _, fun h => by cases h⟩

set_option maxRecDepth 100000 in
theorem lifted (os : Os) (started : os.Started) (H : Type) (enc : TypeId × Value → H) :
    ReturnsInHanded {} Try.checked os 11 .any (Rows.rowsNamesSpec.pre6 enc Try.prog Try.f11 Rows.rowsNamesRow.domain false) (Rows.rowsNamesSpec.post enc Try.prog Try.f11 false true false false) := by
  refine returnsInHanded_of_change (C := Try.checked) own started (by kernel_rfl) Try.func11
    (ChangeSpec.witness6 (enc := enc) (C := Try.checked) false ⟨#[], #[], []⟩ 8 (by kernel_rfl) (by kernel_rfl) (by kernel_rfl) (by kernel_rfl)) ?_
  intro W base args ds gs before hval hW _ _
  exact contract H enc W base args ds gs before hval hW

theorem over : Rows.rowsNamesRow.holds Try.pinned (OpenSpec.ofChange Rows.rowsNamesSpec) :=
  OpenClaim.holds_of_wide 11 Try.f11 rfl rfl rfl rfl rfl rfl rfl ⟨rfl, rfl, rfl, rfl, rfl⟩ rfl rfl rfl rfl rfl (by kernel_rfl) Try.func11 (by kernel_rfl)
    (of_decide_eq_true (by kernel_rfl)) (by unfold Func.isWrapper; first | (rw [if_pos (by decide +kernel)]; kernel_rfl) | (rw [if_neg (by decide +kernel)]; exact ⟨rfl, rfl⟩))
    (fun os started H enc _ => lifted os started H enc)

theorem proved : Rows.RowsNamesSaid := over
end Go.Proofs.Ytpncblagjkbemaa.rowsNames
end
