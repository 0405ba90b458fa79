/- The document's Made. (Printed by schi.py.) -/
import Derived.Test.YtkcpanaojehgiaaSchH
namespace Go.Proofs.Ytkcpanaojehgiaa
open Go.RowKit
set_option linter.unusedVariables false
set_option linter.unusedSimpArgs false

def zeroA : Attr := ⟨0, [], 0, false, 0, false, false⟩
theorem OwnV.kept2 {lo : Nat} {w w' : World} {v : Value} {xs : List V} (h : OwnV lo w v xs) (hB : Below w.heap.size w w') : OwnV lo w' v xs := Own.kept h hB
theorem madeO_e {e : Int} {g : List Ft} (h : e < 10) : madeO e g = none := by
  unfold madeO
  split
  · rw [if_neg (fun h2 => by have := h2.1; omega)]
  · rfl
theorem madeO_n {e : Int} {g : List Ft} (h : ¬ (vals g 1).length = 1) : madeO e g = none := by
  unfold madeO
  split
  · rename_i h1 _; rw [h1] at h; exact absurd rfl h
  · rfl
theorem madeO_m {e : Int} {g : List Ft} (h : ¬ (vals g 2).length = 1) : madeO e g = none := by
  unfold madeO
  split
  · rename_i h1; rw [h1] at h; exact absurd rfl h
  · rfl
theorem uniqL_take (vs : List V) (k : Nat) (h : k < vs.length) : uniqL 0 (vs.take (k + 1)) = (if vs[k].kind = 1 ∧ 1 ≤ vs[k].n ∧ vs[k].n ≤ 2 then (if uniqL 0 (vs.take k) < vs[k].n then vs[k].n else uniqL 0 (vs.take k)) else uniqL 0 (vs.take k)) := by
  unfold uniqL
  rw [List.take_succ_eq_append_getElem h, List.foldl_append]
  rfl
set_option maxRecDepth 100000 in
set_option maxHeartbeats 16000000 in
theorem Made_any (lo hi : Nat) (l : List Ft) (v : Value) (e : Int) (w : World) (hv : Fts lo hi w v l) (hhi : hi ≤ w.heap.size) (hlen : l.length ≤ 2000000000000) (R : Ending → World → Prop)
    (hR : ∀ w', Below w.heap.size w w' → R (.returned (.tuple #[.agg #[.int .i64 ((madeR l e).getD zeroA).id, .string ⟨((madeR l e).getD zeroA).name.toArray⟩, .int .i64 ((madeR l e).getD zeroA).type, .bool ((madeR l e).getD zeroA).many, .int .i64 ((madeR l e).getD zeroA).unique, .bool ((madeR l e).getD zeroA).part, .bool ((madeR l e).getD zeroA).index], .bool (madeR l e).isSome])) w') : Calls Try.prog 36 #[v, .int .i64 e] w R := by
  have Hv := Lib.hid hv
  have HR := Lib.hid hR
  obtain ⟨ao, cap, rfl, -, -, -, -⟩ := hv.form
  clear hv hR
  have hB0 := alloc_below w (.cells #[.int .i64 0, .string ⟨#[]⟩, .int .i64 0, .bool false, .int .i64 0, .bool false, .bool false] 24)
  have hz0 := Blk.new w [.int .i64 0, .string ⟨#[]⟩, .int .i64 0, .bool false, .int .i64 0, .bool false, .bool false] 24 rfl
  go_enter Try.func36, Try.ntmps36
  go_upto_region 1 with fail
  generalize w.alloc (.cells #[.int .i64 0, .string ⟨#[]⟩, .int .i64 0, .bool false, .int .i64 0, .bool false, .bool false] 24) = w0 at *
  have hzs0 := hB0.size
  have hzl := hz0.lt
  go_wp2_with fail
  refine values_any lo hi l _ e 1 w0 (Sl.below Hv.out ftE_loc hB0 hhi) (by omega) hlen _ (fun w1 v6 hB1 ho6 => ?_)
  have hzs1 := hB1.size
  have hz1 := hz0.below hB1 hzl
  have hB01 := hB0.trans (hB1.mono hzs0)
  obtain ⟨p6, c6, rfl⟩ := Own.slice ho6
  go_wp2_with fail
  refine values_any lo hi l _ e 2 w1 (Sl.below Hv.out ftE_loc hB01 hhi) (by omega) hlen _ (fun w2 v7 hB2 ho7 => ?_)
  have hzs2 := hB2.size
  have Hz2 := Lib.hid (hz1.below hB2 (by omega))
  have HB2 := Lib.hid (hB01.trans (hB2.mono (by omega)))
  have Ho6 := Lib.hid (Own.kept ho6 hB2)
  have Ho7 := Lib.hid ho7
  obtain ⟨p7, c7, rfl⟩ := Own.slice ho7
  clear hz0 hz1 hB0 hB1 hB01 hB2 ho6 ho7
  obtain ⟨N, hN⟩ : ∃ N, N = vals (ofE l e) 1 := ⟨_, rfl⟩
  obtain ⟨M, hM⟩ : ∃ M, M = vals (ofE l e) 2 := ⟨_, rfl⟩
  rw [← hN] at Ho6 ⊢
  rw [← hM] at Ho7 ⊢
  have HN := Lib.hid hN
  have HM := Lib.hid hM
  clear hN hM
  by_cases he : e < 10
  ·
    have hmn : madeR l e = none := by unfold madeR; exact madeO_e he
    have hr := HR.out (set7 w2 w.heap.size (.int .i64 0) (.string ⟨#[]⟩) (.int .i64 0) (.bool false) (.int .i64 0) (.bool false) (.bool false)) (below_set7 HB2.out (Nat.le_refl _) _ _ _ _ _ _ _)
    rw [hmn] at hr
    have hrv := (Blk.set7 Hz2.out (.int .i64 0) (.string ⟨#[]⟩) (.int .i64 0) (.bool false) (.int .i64 0) (.bool false) (.bool false)).runAttr
    unfold set7 at hr hrv
    have Hr := Lib.hid hr
    have Hrv := Lib.hid hrv
    have f1 := Hz2.out.free
    obtain ⟨z0, z1, z2, z3, z4, z5, z6⟩ := Hz2.out.cells.c7
    clear hr hrv hmn
    go_wp2_with fail
    exact ret_cell_tmp rfl rfl Hrv.out rfl rfl Hr.out
  have he2 : 10 ≤ e := by omega
  by_cases hn : N.length = 1
  case neg =>
    have hn2 : ((N.length : Int) != 1) = true := by simpa using (show ¬ (N.length : Int) = 1 by omega)
    have hn3 : ¬ (N.length : Int) = 1 := by omega
    have hmn : madeR l e = none := by unfold madeR; exact madeO_n (by rw [← HN.out]; exact hn)
    have hr := HR.out (set7 w2 w.heap.size (.int .i64 0) (.string ⟨#[]⟩) (.int .i64 0) (.bool false) (.int .i64 0) (.bool false) (.bool false)) (below_set7 HB2.out (Nat.le_refl _) _ _ _ _ _ _ _)
    rw [hmn] at hr
    have hrv := (Blk.set7 Hz2.out (.int .i64 0) (.string ⟨#[]⟩) (.int .i64 0) (.bool false) (.int .i64 0) (.bool false) (.bool false)).runAttr
    unfold set7 at hr hrv
    have Hr := Lib.hid hr
    have Hrv := Lib.hid hrv
    have f1 := Hz2.out.free
    obtain ⟨z0, z1, z2, z3, z4, z5, z6⟩ := Hz2.out.cells.c7
    clear hr hrv hmn
    go_wp2_with fail
    exact ret_cell_tmp rfl rfl Hrv.out rfl rfl Hr.out
  by_cases hm : M.length = 1
  case neg =>
    have hn1 : (N.length : Int) = 1 := by omega
    have hm2 : ((M.length : Int) != 1) = true := by simpa using (show ¬ (M.length : Int) = 1 by omega)
    have hmn : madeR l e = none := by unfold madeR; exact madeO_m (by rw [← HM.out]; exact hm)
    have hr := HR.out (set7 w2 w.heap.size (.int .i64 0) (.string ⟨#[]⟩) (.int .i64 0) (.bool false) (.int .i64 0) (.bool false) (.bool false)) (below_set7 HB2.out (Nat.le_refl _) _ _ _ _ _ _ _)
    rw [hmn] at hr
    have hrv := (Blk.set7 Hz2.out (.int .i64 0) (.string ⟨#[]⟩) (.int .i64 0) (.bool false) (.int .i64 0) (.bool false) (.bool false)).runAttr
    unfold set7 at hr hrv
    have Hr := Lib.hid hr
    have Hrv := Lib.hid hrv
    have f1 := Hz2.out.free
    obtain ⟨z0, z1, z2, z3, z4, z5, z6⟩ := Hz2.out.cells.c7
    clear hr hrv hmn
    go_wp2_with fail
    exact ret_cell_tmp rfl rfl Hrv.out rfl rfl Hr.out
  obtain ⟨nv, rfl⟩ := List.length_eq_one_iff.1 hn
  obtain ⟨tv, rfl⟩ := List.length_eq_one_iff.1 hm
  obtain ⟨gn, cn, en, hgnl, hgn, -, -, hcn, -⟩ := Own.form Ho6.out (by simp)
  obtain ⟨gt, ct, et, hgtl, hgt, -, -, hct, -⟩ := Own.form Ho7.out (by simp)
  injection en with en _ en'
  injection et with et _ et'
  subst en en' et et'
  obtain ⟨n0, n1, n2⟩ := CellsAt.c3 (show CellsAt w2 gn 0 [.int .i64 nv.kind, .int .i64 nv.n, .string ⟨nv.s.toArray⟩] from hcn)
  obtain ⟨t0, t1, t2⟩ := CellsAt.c3 (show CellsAt w2 gt 0 [.int .i64 tv.kind, .int .i64 tv.n, .string ⟨tv.s.toArray⟩] from hct)
  clear hn hm hcn hct
  simp only [List.length_cons, List.length_nil, Nat.zero_add] at Ho6 Ho7 ⊢
  have hNM : madeR l e = if 10 ≤ e ∧ nv.kind = 7 ∧ tv.kind = 1 ∧ 1 ≤ tv.n ∧ tv.n ≤ 7 then some ⟨e, nv.s, tv.n, yesL (vals (ofE l e) 3), uniqL 0 (vals (ofE l e) 4), yesL (vals (ofE l e) 5), yesL (vals (ofE l e) 6)⟩ else none := by
    unfold madeR madeO
    rw [← HN.out, ← HM.out]
  have HNM := Lib.hid hNM
  clear hNM
  by_cases h7 : nv.kind = 7
  case neg =>
    have h72 : (nv.kind != 7) = true := by simpa using h7
    have hmn : madeR l e = none := by rw [HNM.out, if_neg (fun h => h7 h.2.1)]
    have hr := HR.out (set7 w2 w.heap.size (.int .i64 0) (.string ⟨#[]⟩) (.int .i64 0) (.bool false) (.int .i64 0) (.bool false) (.bool false)) (below_set7 HB2.out (Nat.le_refl _) _ _ _ _ _ _ _)
    rw [hmn] at hr
    have hrv := (Blk.set7 Hz2.out (.int .i64 0) (.string ⟨#[]⟩) (.int .i64 0) (.bool false) (.int .i64 0) (.bool false) (.bool false)).runAttr
    unfold set7 at hr hrv
    have Hr := Lib.hid hr
    have Hrv := Lib.hid hrv
    have f1 := Hz2.out.free
    obtain ⟨z0, z1, z2, z3, z4, z5, z6⟩ := Hz2.out.cells.c7
    clear hr hrv hmn
    go_wp2_with fail
    exact ret_cell_tmp rfl rfl Hrv.out rfl rfl Hr.out
  by_cases h1 : tv.kind = 1
  case neg =>
    have h12 : (tv.kind != 1) = true := by simpa using h1
    have hmn : madeR l e = none := by rw [HNM.out, if_neg (fun h => h1 h.2.2.1)]
    have hr := HR.out (set7 w2 w.heap.size (.int .i64 0) (.string ⟨#[]⟩) (.int .i64 0) (.bool false) (.int .i64 0) (.bool false) (.bool false)) (below_set7 HB2.out (Nat.le_refl _) _ _ _ _ _ _ _)
    rw [hmn] at hr
    have hrv := (Blk.set7 Hz2.out (.int .i64 0) (.string ⟨#[]⟩) (.int .i64 0) (.bool false) (.int .i64 0) (.bool false) (.bool false)).runAttr
    unfold set7 at hr hrv
    have Hr := Lib.hid hr
    have Hrv := Lib.hid hrv
    have f1 := Hz2.out.free
    obtain ⟨z0, z1, z2, z3, z4, z5, z6⟩ := Hz2.out.cells.c7
    clear hr hrv hmn
    go_wp2_with fail
    exact ret_cell_tmp rfl rfl Hrv.out rfl rfl Hr.out
  by_cases hl1 : tv.n < 1
  ·
    have hmn : madeR l e = none := by rw [HNM.out, if_neg (fun h => by have := h.2.2.2.1; omega)]
    have hr := HR.out (set7 w2 w.heap.size (.int .i64 0) (.string ⟨#[]⟩) (.int .i64 0) (.bool false) (.int .i64 0) (.bool false) (.bool false)) (below_set7 HB2.out (Nat.le_refl _) _ _ _ _ _ _ _)
    rw [hmn] at hr
    have hrv := (Blk.set7 Hz2.out (.int .i64 0) (.string ⟨#[]⟩) (.int .i64 0) (.bool false) (.int .i64 0) (.bool false) (.bool false)).runAttr
    unfold set7 at hr hrv
    have Hr := Lib.hid hr
    have Hrv := Lib.hid hrv
    have f1 := Hz2.out.free
    obtain ⟨z0, z1, z2, z3, z4, z5, z6⟩ := Hz2.out.cells.c7
    clear hr hrv hmn
    go_wp2_with fail
    exact ret_cell_tmp rfl rfl Hrv.out rfl rfl Hr.out
  by_cases hl7 : 7 < tv.n
  ·
    have hmn : madeR l e = none := by rw [HNM.out, if_neg (fun h => by have := h.2.2.2.2; omega)]
    have hr := HR.out (set7 w2 w.heap.size (.int .i64 0) (.string ⟨#[]⟩) (.int .i64 0) (.bool false) (.int .i64 0) (.bool false) (.bool false)) (below_set7 HB2.out (Nat.le_refl _) _ _ _ _ _ _ _)
    rw [hmn] at hr
    have hrv := (Blk.set7 Hz2.out (.int .i64 0) (.string ⟨#[]⟩) (.int .i64 0) (.bool false) (.int .i64 0) (.bool false) (.bool false)).runAttr
    unfold set7 at hr hrv
    have Hr := Lib.hid hr
    have Hrv := Lib.hid hrv
    have f1 := Hz2.out.free
    obtain ⟨z0, z1, z2, z3, z4, z5, z6⟩ := Hz2.out.cells.c7
    clear hr hrv hmn
    go_wp2_with fail
    exact ret_cell_tmp rfl rfl Hrv.out rfl rfl Hr.out
  have hsome : Hid (madeR l e = some ⟨e, nv.s, tv.n, yesL (vals (ofE l e) 3), uniqL 0 (vals (ofE l e) 4), yesL (vals (ofE l e) 5), yesL (vals (ofE l e) 6)⟩) := Lib.hid (by rw [HNM.out, if_pos ⟨he2, h7, h1, by omega, by omega⟩])
  go_upto_region 5 with fail
  obtain ⟨w4, e4⟩ : ∃ x, x = w2 := ⟨_, rfl⟩
  subst e4
  have hhw : hi ≤ w4.heap.size := by omega
  have HFt : Hid (∀ w', Below w4.heap.size w4 w' → Fts lo hi w' (.slice ao l.length cap) l) := Lib.hid (fun w' h => Sl.below (Sl.below Hv.out ftE_loc HB2.out hhi) ftE_loc h hhw)
  go_cut [8] from 18 to 79 (fun t8 wx => ∃ q, t8 = .pointer (some ⟨q, 0, none⟩) ∧ w4.heap.size ≤ q ∧ Below w4.heap.size w4 wx ∧ Blk wx q [.int .i64 e, .string ⟨nv.s.toArray⟩, .int .i64 tv.n, .bool (yesL (vals (ofE l e) 3)), .int .i64 0, .bool (yesL (vals (ofE l e) 5)), .bool (yesL (vals (ofE l e) 6))] 24)
  case first =>
    refine wp_region_held_drew (S := fun w' => Below w4.heap.size w4 w') (by kernel_rfl) (Below.drew (Below.refl _ _)) (fun hHeld => ?_)
    refine wpAnyH_take (i := 0) (v := .int .i64 e) rfl (by kernel_rfl) (by kernel_rfl) (by kernel_rfl) (fun _ _ _ h => h) (Or.inl ⟨by rfl, ?_⟩) hHeld ?_
    · intro w' hSw; go_simp
    try simp only [Act.put, List.getElem_toArray, List.getElem_cons_succ, List.getElem_cons_zero, List.setIfInBounds_toArray, List.set_cons_zero, List.set_cons_succ]
    refine wpAnyH_take (i := 1) (v := .slice (some ⟨gn, 0, none⟩) 1 c6) rfl (by kernel_rfl) (by kernel_rfl) (by kernel_rfl) (fun _ _ _ h => h) (Or.inl ⟨by rfl, ?_⟩) hHeld ?_
    · intro w' hSw; go_simp
    try simp only [Act.put, List.getElem_toArray, List.getElem_cons_succ, List.getElem_cons_zero, List.setIfInBounds_toArray, List.set_cons_zero, List.set_cons_succ]
    refine wpAnyH_take (i := 2) (v := .pointer (some ⟨gn, 0, none⟩)) rfl (by kernel_rfl) (by kernel_rfl) (by kernel_rfl) (fun _ _ _ h => h) (Or.inl ⟨by rfl, ?_⟩) hHeld ?_
    · intro w' hSw; go_simp
    try simp only [Act.put, List.getElem_toArray, List.getElem_cons_succ, List.getElem_cons_zero, List.setIfInBounds_toArray, List.set_cons_zero, List.set_cons_succ]
    refine wpAnyH_take (i := 3) (v := .pointer (some ⟨gn, 2, none⟩)) rfl (by kernel_rfl) (by kernel_rfl) (by kernel_rfl) (fun _ _ _ h => h) (Or.inl ⟨by rfl, ?_⟩) hHeld ?_
    · intro w' hSw; go_simp
    try simp only [Act.put, List.getElem_toArray, List.getElem_cons_succ, List.getElem_cons_zero, List.setIfInBounds_toArray, List.set_cons_zero, List.set_cons_succ]
    refine wpAnyH_take (i := 4) (v := .string ⟨nv.s.toArray⟩) rfl (by kernel_rfl) (by kernel_rfl) (by kernel_rfl) (fun _ _ _ h => h) (Or.inl ⟨by rfl, ?_⟩) hHeld ?_
    · intro w' hSw; have kx := (World.cell?_of_block (hSw.block _ hgn)).trans n2; go_simp
    try simp only [Act.put, List.getElem_toArray, List.getElem_cons_succ, List.getElem_cons_zero, List.setIfInBounds_toArray, List.set_cons_zero, List.set_cons_succ]
    refine wpAnyH_take (i := 5) (v := .slice (some ⟨gt, 0, none⟩) 1 c7) rfl (by kernel_rfl) (by kernel_rfl) (by kernel_rfl) (fun _ _ _ h => h) (Or.inl ⟨by rfl, ?_⟩) hHeld ?_
    · intro w' hSw; go_simp
    try simp only [Act.put, List.getElem_toArray, List.getElem_cons_succ, List.getElem_cons_zero, List.setIfInBounds_toArray, List.set_cons_zero, List.set_cons_succ]
    refine wpAnyH_take (i := 6) (v := .pointer (some ⟨gt, 0, none⟩)) rfl (by kernel_rfl) (by kernel_rfl) (by kernel_rfl) (fun _ _ _ h => h) (Or.inl ⟨by rfl, ?_⟩) hHeld ?_
    · intro w' hSw; go_simp
    try simp only [Act.put, List.getElem_toArray, List.getElem_cons_succ, List.getElem_cons_zero, List.setIfInBounds_toArray, List.set_cons_zero, List.set_cons_succ]
    refine wpAnyH_take (i := 7) (v := .pointer (some ⟨gt, 1, none⟩)) rfl (by kernel_rfl) (by kernel_rfl) (by kernel_rfl) (fun _ _ _ h => h) (Or.inl ⟨by rfl, ?_⟩) hHeld ?_
    · intro w' hSw; go_simp
    try simp only [Act.put, List.getElem_toArray, List.getElem_cons_succ, List.getElem_cons_zero, List.setIfInBounds_toArray, List.set_cons_zero, List.set_cons_succ]
    refine wpAnyH_take (i := 8) (v := .int .i64 (tv.n)) rfl (by kernel_rfl) (by kernel_rfl) (by kernel_rfl) (fun _ _ _ h => h) (Or.inl ⟨by rfl, ?_⟩) hHeld ?_
    · intro w' hSw; have kx := (World.cell?_of_block (hSw.block _ hgt)).trans t1; go_simp
    try simp only [Act.put, List.getElem_toArray, List.getElem_cons_succ, List.getElem_cons_zero, List.setIfInBounds_toArray, List.set_cons_zero, List.set_cons_succ]
    refine wpAnyH_take (i := 9) (v := .slice ao l.length cap) rfl (by kernel_rfl) (by kernel_rfl) (by kernel_rfl) (fun _ _ _ h => h) (Or.inl ⟨by rfl, ?_⟩) hHeld ?_
    · intro w' hSw; go_simp
    try simp only [Act.put, List.getElem_toArray, List.getElem_cons_succ, List.getElem_cons_zero, List.setIfInBounds_toArray, List.set_cons_zero, List.set_cons_succ]
    refine wpAnyH_take (i := 10) (v := .int .i64 e) rfl (by kernel_rfl) (by kernel_rfl) (by kernel_rfl) (fun _ _ _ h => h) (Or.inl ⟨by rfl, ?_⟩) hHeld ?_
    · intro w' hSw; go_simp
    try simp only [Act.put, List.getElem_toArray, List.getElem_cons_succ, List.getElem_cons_zero, List.setIfInBounds_toArray, List.set_cons_zero, List.set_cons_succ]
    refine wpAnyH_take (i := 13) (v := .slice ao l.length cap) rfl (by kernel_rfl) (by kernel_rfl) (by kernel_rfl) (fun _ _ _ h => h) (Or.inl ⟨by rfl, ?_⟩) hHeld ?_
    · intro w' hSw; go_simp
    try simp only [Act.put, List.getElem_toArray, List.getElem_cons_succ, List.getElem_cons_zero, List.setIfInBounds_toArray, List.set_cons_zero, List.set_cons_succ]
    refine wpAnyH_take (i := 14) (v := .int .i64 e) rfl (by kernel_rfl) (by kernel_rfl) (by kernel_rfl) (fun _ _ _ h => h) (Or.inl ⟨by rfl, ?_⟩) hHeld ?_
    · intro w' hSw; go_simp
    try simp only [Act.put, List.getElem_toArray, List.getElem_cons_succ, List.getElem_cons_zero, List.setIfInBounds_toArray, List.set_cons_zero, List.set_cons_succ]
    refine wpAnyH_take (i := 17) (v := .slice ao l.length cap) rfl (by kernel_rfl) (by kernel_rfl) (by kernel_rfl) (fun _ _ _ h => h) (Or.inl ⟨by rfl, ?_⟩) hHeld ?_
    · intro w' hSw; go_simp
    try simp only [Act.put, List.getElem_toArray, List.getElem_cons_succ, List.getElem_cons_zero, List.setIfInBounds_toArray, List.set_cons_zero, List.set_cons_succ]
    refine wpAnyH_take (i := 18) (v := .int .i64 e) rfl (by kernel_rfl) (by kernel_rfl) (by kernel_rfl) (fun _ _ _ h => h) (Or.inl ⟨by rfl, ?_⟩) hHeld ?_
    · intro w' hSw; go_simp
    try simp only [Act.put, List.getElem_toArray, List.getElem_cons_succ, List.getElem_cons_zero, List.setIfInBounds_toArray, List.set_cons_zero, List.set_cons_succ]
    refine wpAnyH_ready (rs := [11, 22]) (by kernel_rfl) (by simp) ?_
    refine allCall (f := 62) (args := #[.slice ao l.length cap, .int .i64 e, .int .i64 3]) rfl (by kernel_rfl) (by kernel_rfl) ?_ ?_
    · refine values_any lo hi l _ e 3 w4.drew (HFt.out _ hHeld) (Nat.le_trans hhw hHeld.size) hlen _ (fun wq1 v3 hB hov => ?_)
      have Hov := Lib.hid hov.sl
      refine ⟨_, rfl, hHeld.trans (hB.mono hHeld.size), ?_⟩
      have hHeld2 := hHeld.trans (hB.mono hHeld.size)
      clear hHeld
      have hHeld := hHeld2
      clear hHeld2 hov
      clear hB
      try simp only [Act.put, List.getElem_toArray, List.getElem_cons_succ, List.getElem_cons_zero, List.setIfInBounds_toArray, List.set_cons_zero, List.set_cons_succ]
      refine wpAnyH_ready (rs := [12, 22]) (by kernel_rfl) (by simp) ?_
      refine allCall (f := 63) (args := #[v3]) rfl (by kernel_rfl) (by kernel_rfl) ?_ ?_
      · refine yes_any _ _ (vals (ofE l e) 3) _ wq1 Hov.out _ ⟨_, rfl, hHeld, ?_⟩
        clear Hov
        try simp only [Act.put, List.getElem_toArray, List.getElem_cons_succ, List.getElem_cons_zero, List.setIfInBounds_toArray, List.set_cons_zero, List.set_cons_succ]
        refine wpAnyH_ready (rs := [15, 22]) (by kernel_rfl) (by simp) ?_
        refine allCall (f := 62) (args := #[.slice ao l.length cap, .int .i64 e, .int .i64 5]) rfl (by kernel_rfl) (by kernel_rfl) ?_ ?_
        · refine values_any lo hi l _ e 5 wq1 (HFt.out _ hHeld) (Nat.le_trans hhw hHeld.size) hlen _ (fun wq2 v5 hB hov => ?_)
          have Hov := Lib.hid hov.sl
          refine ⟨_, rfl, hHeld.trans (hB.mono hHeld.size), ?_⟩
          have hHeld2 := hHeld.trans (hB.mono hHeld.size)
          clear hHeld
          have hHeld := hHeld2
          clear hHeld2 hov
          clear hB
          try simp only [Act.put, List.getElem_toArray, List.getElem_cons_succ, List.getElem_cons_zero, List.setIfInBounds_toArray, List.set_cons_zero, List.set_cons_succ]
          refine wpAnyH_ready (rs := [16, 22]) (by kernel_rfl) (by simp) ?_
          refine allCall (f := 63) (args := #[v5]) rfl (by kernel_rfl) (by kernel_rfl) ?_ ?_
          · refine yes_any _ _ (vals (ofE l e) 5) _ wq2 Hov.out _ ⟨_, rfl, hHeld, ?_⟩
            clear Hov
            try simp only [Act.put, List.getElem_toArray, List.getElem_cons_succ, List.getElem_cons_zero, List.setIfInBounds_toArray, List.set_cons_zero, List.set_cons_succ]
            refine wpAnyH_ready (rs := [19, 22]) (by kernel_rfl) (by simp) ?_
            refine allCall (f := 62) (args := #[.slice ao l.length cap, .int .i64 e, .int .i64 6]) rfl (by kernel_rfl) (by kernel_rfl) ?_ ?_
            · refine values_any lo hi l _ e 6 wq2 (HFt.out _ hHeld) (Nat.le_trans hhw hHeld.size) hlen _ (fun wq3 v6 hB hov => ?_)
              have Hov := Lib.hid hov.sl
              refine ⟨_, rfl, hHeld.trans (hB.mono hHeld.size), ?_⟩
              have hHeld2 := hHeld.trans (hB.mono hHeld.size)
              clear hHeld
              have hHeld := hHeld2
              clear hHeld2 hov
              clear hB
              try simp only [Act.put, List.getElem_toArray, List.getElem_cons_succ, List.getElem_cons_zero, List.setIfInBounds_toArray, List.set_cons_zero, List.set_cons_succ]
              refine wpAnyH_ready (rs := [20, 22]) (by kernel_rfl) (by simp) ?_
              refine allCall (f := 63) (args := #[v6]) rfl (by kernel_rfl) (by kernel_rfl) ?_ ?_
              · refine yes_any _ _ (vals (ofE l e) 6) _ wq3 Hov.out _ ⟨_, rfl, hHeld, ?_⟩
                clear Hov
                try simp only [Act.put, List.getElem_toArray, List.getElem_cons_succ, List.getElem_cons_zero, List.setIfInBounds_toArray, List.set_cons_zero, List.set_cons_succ]
                refine wpAnyH_take (i := 21) (v := .agg #[.int .i64 e, .string ⟨nv.s.toArray⟩, .int .i64 (tv.n), .bool (yesL (vals (ofE l e) 3)), .int .i64 0, .bool (yesL (vals (ofE l e) 5)), .bool (yesL (vals (ofE l e) 6))]) rfl (by kernel_rfl) (by kernel_rfl) (by kernel_rfl) (fun _ _ _ h => h) (Or.inl ⟨by rfl, ?_⟩) hHeld ?_
                · intro w' hSw; go_simp
                try simp only [Act.put, List.getElem_toArray, List.getElem_cons_succ, List.getElem_cons_zero, List.setIfInBounds_toArray, List.set_cons_zero, List.set_cons_succ]
                refine wpAnyH_ready (rs := [22]) (by kernel_rfl) (by simp) ?_
                refine allVal (v := .pointer (some ⟨wq3.heap.size, 0, none⟩)) (w' := wq3.alloc (.cells #[.int .i64 0, .string ⟨#[]⟩, .int .i64 0, .bool false, .int .i64 0, .bool false, .bool false] 24)) rfl (by kernel_rfl) ?_ (hHeld.alloc hHeld.size _) ?_ AllReadyH.nil
                · go_simp
                have hq := Blk.new wq3 [.int .i64 0, .string ⟨#[]⟩, .int .i64 0, .bool false, .int .i64 0, .bool false, .bool false] 24 rfl
                have hHeld2 := hHeld.alloc hHeld.size (.cells #[.int .i64 0, .string ⟨#[]⟩, .int .i64 0, .bool false, .int .i64 0, .bool false, .bool false] 24)
                have hq0 := hHeld.size
                obtain ⟨q, eq⟩ : ∃ q, q = wq3.heap.size := ⟨_, rfl⟩
                rw [← eq] at hq
                rw [← eq]
                have Hq := Lib.hid hq
                have Hq0 : Hid (w4.heap.size ≤ q) := Lib.hid (by rw [eq]; exact hq0)
                clear hHeld hq hq0
                have hHeld := hHeld2
                clear hHeld2 eq
                generalize wq3.alloc (.cells #[.int .i64 0, .string ⟨#[]⟩, .int .i64 0, .bool false, .int .i64 0, .bool false, .bool false] 24) = wq4 at *
                try simp only [Act.put, List.getElem_toArray, List.getElem_cons_succ, List.getElem_cons_zero, List.setIfInBounds_toArray, List.set_cons_zero, List.set_cons_succ]
                refine wpAnyH_ready (rs := [23]) (by kernel_rfl) (by simp) ?_
                refine allSkip (w' := set7 wq4 q (.int .i64 e) (.string ⟨nv.s.toArray⟩) (.int .i64 (tv.n)) (.bool (yesL (vals (ofE l e) 3))) (.int .i64 0) (.bool (yesL (vals (ofE l e) 5))) (.bool (yesL (vals (ofE l e) 6)))) rfl (by kernel_rfl) ?_ (below_set7 hHeld Hq0.out _ _ _ _ _ _ _) ?_ AllReadyH.nil
                · have f1 := Hq.out.free
                  obtain ⟨z0, z1, z2, z3, z4, z5, z6⟩ := Hq.out.cells.c7
                  unfold set7
                  go_simp
                have hBe := below_set7 hHeld Hq0.out (.int .i64 e) (.string ⟨nv.s.toArray⟩) (.int .i64 (tv.n)) (.bool (yesL (vals (ofE l e) 3))) (.int .i64 0) (.bool (yesL (vals (ofE l e) 5))) (.bool (yesL (vals (ofE l e) 6)))
                have hbe := Blk.set7 Hq.out (.int .i64 e) (.string ⟨nv.s.toArray⟩) (.int .i64 (tv.n)) (.bool (yesL (vals (ofE l e) 3))) (.int .i64 0) (.bool (yesL (vals (ofE l e) 5))) (.bool (yesL (vals (ofE l e) 6)))
                try simp only [Act.put, List.getElem_toArray, List.getElem_cons_succ, List.getElem_cons_zero, List.setIfInBounds_toArray, List.set_cons_zero, List.set_cons_succ]
                refine wpAnyH_done (by kernel_rfl) ?_ _
                clear hHeld
                go_wp2_with fail
                go_meet
                exact ⟨q, rfl, Hq0.out, hBe, hbe⟩
              refine allVal (v := .pointer (some ⟨wq3.heap.size, 0, none⟩)) (w' := wq3.alloc (.cells #[.int .i64 0, .string ⟨#[]⟩, .int .i64 0, .bool false, .int .i64 0, .bool false, .bool false] 24)) rfl (by kernel_rfl) ?_ (hHeld.alloc hHeld.size _) ?_ AllReadyH.nil
              · go_simp
              have hq := Blk.new wq3 [.int .i64 0, .string ⟨#[]⟩, .int .i64 0, .bool false, .int .i64 0, .bool false, .bool false] 24 rfl
              have hHeld2 := hHeld.alloc hHeld.size (.cells #[.int .i64 0, .string ⟨#[]⟩, .int .i64 0, .bool false, .int .i64 0, .bool false, .bool false] 24)
              have hq0 := hHeld.size
              obtain ⟨q, eq⟩ : ∃ q, q = wq3.heap.size := ⟨_, rfl⟩
              rw [← eq] at hq
              rw [← eq]
              replace Hov := Lib.hid (Sl.below Hov.out (flat_loc _) (alloc_below wq3 (.cells #[.int .i64 0, .string ⟨#[]⟩, .int .i64 0, .bool false, .int .i64 0, .bool false, .bool false] 24)) (Nat.le_refl _))
              have Hq := Lib.hid hq
              have Hq0 : Hid (w4.heap.size ≤ q) := Lib.hid (by rw [eq]; exact hq0)
              clear hHeld hq hq0
              have hHeld := hHeld2
              clear hHeld2 eq
              generalize wq3.alloc (.cells #[.int .i64 0, .string ⟨#[]⟩, .int .i64 0, .bool false, .int .i64 0, .bool false, .bool false] 24) = wq5 at *
              try simp only [Act.put, List.getElem_toArray, List.getElem_cons_succ, List.getElem_cons_zero, List.setIfInBounds_toArray, List.set_cons_zero, List.set_cons_succ]
              refine wpAnyH_ready (rs := [20]) (by kernel_rfl) (by simp) ?_
              refine allCall (f := 63) (args := #[v6]) rfl (by kernel_rfl) (by kernel_rfl) ?_ AllReadyH.nil
              refine yes_any _ _ (vals (ofE l e) 6) _ wq5 Hov.out _ ⟨_, rfl, hHeld, ?_⟩
              clear Hov
              try simp only [Act.put, List.getElem_toArray, List.getElem_cons_succ, List.getElem_cons_zero, List.setIfInBounds_toArray, List.set_cons_zero, List.set_cons_succ]
              refine wpAnyH_take (i := 21) (v := .agg #[.int .i64 e, .string ⟨nv.s.toArray⟩, .int .i64 (tv.n), .bool (yesL (vals (ofE l e) 3)), .int .i64 0, .bool (yesL (vals (ofE l e) 5)), .bool (yesL (vals (ofE l e) 6))]) rfl (by kernel_rfl) (by kernel_rfl) (by kernel_rfl) (fun _ _ _ h => h) (Or.inl ⟨by rfl, ?_⟩) hHeld ?_
              · intro w' hSw; go_simp
              try simp only [Act.put, List.getElem_toArray, List.getElem_cons_succ, List.getElem_cons_zero, List.setIfInBounds_toArray, List.set_cons_zero, List.set_cons_succ]
              refine wpAnyH_ready (rs := [23]) (by kernel_rfl) (by simp) ?_
              refine allSkip (w' := set7 wq5 q (.int .i64 e) (.string ⟨nv.s.toArray⟩) (.int .i64 (tv.n)) (.bool (yesL (vals (ofE l e) 3))) (.int .i64 0) (.bool (yesL (vals (ofE l e) 5))) (.bool (yesL (vals (ofE l e) 6)))) rfl (by kernel_rfl) ?_ (below_set7 hHeld Hq0.out _ _ _ _ _ _ _) ?_ AllReadyH.nil
              · have f1 := Hq.out.free
                obtain ⟨z0, z1, z2, z3, z4, z5, z6⟩ := Hq.out.cells.c7
                unfold set7
                go_simp
              have hBe := below_set7 hHeld Hq0.out (.int .i64 e) (.string ⟨nv.s.toArray⟩) (.int .i64 (tv.n)) (.bool (yesL (vals (ofE l e) 3))) (.int .i64 0) (.bool (yesL (vals (ofE l e) 5))) (.bool (yesL (vals (ofE l e) 6)))
              have hbe := Blk.set7 Hq.out (.int .i64 e) (.string ⟨nv.s.toArray⟩) (.int .i64 (tv.n)) (.bool (yesL (vals (ofE l e) 3))) (.int .i64 0) (.bool (yesL (vals (ofE l e) 5))) (.bool (yesL (vals (ofE l e) 6)))
              try simp only [Act.put, List.getElem_toArray, List.getElem_cons_succ, List.getElem_cons_zero, List.setIfInBounds_toArray, List.set_cons_zero, List.set_cons_succ]
              refine wpAnyH_done (by kernel_rfl) ?_ _
              clear hHeld
              go_wp2_with fail
              go_meet
              exact ⟨q, rfl, Hq0.out, hBe, hbe⟩
            refine allVal (v := .pointer (some ⟨wq2.heap.size, 0, none⟩)) (w' := wq2.alloc (.cells #[.int .i64 0, .string ⟨#[]⟩, .int .i64 0, .bool false, .int .i64 0, .bool false, .bool false] 24)) rfl (by kernel_rfl) ?_ (hHeld.alloc hHeld.size _) ?_ AllReadyH.nil
            · go_simp
            have hq := Blk.new wq2 [.int .i64 0, .string ⟨#[]⟩, .int .i64 0, .bool false, .int .i64 0, .bool false, .bool false] 24 rfl
            have hHeld2 := hHeld.alloc hHeld.size (.cells #[.int .i64 0, .string ⟨#[]⟩, .int .i64 0, .bool false, .int .i64 0, .bool false, .bool false] 24)
            have hq0 := hHeld.size
            obtain ⟨q, eq⟩ : ∃ q, q = wq2.heap.size := ⟨_, rfl⟩
            rw [← eq] at hq
            rw [← eq]
            have Hq := Lib.hid hq
            have Hq0 : Hid (w4.heap.size ≤ q) := Lib.hid (by rw [eq]; exact hq0)
            clear hHeld hq hq0
            have hHeld := hHeld2
            clear hHeld2 eq
            generalize wq2.alloc (.cells #[.int .i64 0, .string ⟨#[]⟩, .int .i64 0, .bool false, .int .i64 0, .bool false, .bool false] 24) = wq6 at *
            try simp only [Act.put, List.getElem_toArray, List.getElem_cons_succ, List.getElem_cons_zero, List.setIfInBounds_toArray, List.set_cons_zero, List.set_cons_succ]
            refine wpAnyH_ready (rs := [19]) (by kernel_rfl) (by simp) ?_
            refine allCall (f := 62) (args := #[.slice ao l.length cap, .int .i64 e, .int .i64 6]) rfl (by kernel_rfl) (by kernel_rfl) ?_ AllReadyH.nil
            refine values_any lo hi l _ e 6 wq6 (HFt.out _ hHeld) (Nat.le_trans hhw hHeld.size) hlen _ (fun wq7 v6 hB hov => ?_)
            have Hov := Lib.hid hov.sl
            refine ⟨_, rfl, hHeld.trans (hB.mono hHeld.size), ?_⟩
            have hHeld2 := hHeld.trans (hB.mono hHeld.size)
            clear hHeld
            have hHeld := hHeld2
            clear hHeld2 hov
            replace Hq := Lib.hid (Hq.out.below hB Hq.out.lt)
            clear hB
            try simp only [Act.put, List.getElem_toArray, List.getElem_cons_succ, List.getElem_cons_zero, List.setIfInBounds_toArray, List.set_cons_zero, List.set_cons_succ]
            refine wpAnyH_ready (rs := [20]) (by kernel_rfl) (by simp) ?_
            refine allCall (f := 63) (args := #[v6]) rfl (by kernel_rfl) (by kernel_rfl) ?_ AllReadyH.nil
            refine yes_any _ _ (vals (ofE l e) 6) _ wq7 Hov.out _ ⟨_, rfl, hHeld, ?_⟩
            clear Hov
            try simp only [Act.put, List.getElem_toArray, List.getElem_cons_succ, List.getElem_cons_zero, List.setIfInBounds_toArray, List.set_cons_zero, List.set_cons_succ]
            refine wpAnyH_take (i := 21) (v := .agg #[.int .i64 e, .string ⟨nv.s.toArray⟩, .int .i64 (tv.n), .bool (yesL (vals (ofE l e) 3)), .int .i64 0, .bool (yesL (vals (ofE l e) 5)), .bool (yesL (vals (ofE l e) 6))]) rfl (by kernel_rfl) (by kernel_rfl) (by kernel_rfl) (fun _ _ _ h => h) (Or.inl ⟨by rfl, ?_⟩) hHeld ?_
            · intro w' hSw; go_simp
            try simp only [Act.put, List.getElem_toArray, List.getElem_cons_succ, List.getElem_cons_zero, List.setIfInBounds_toArray, List.set_cons_zero, List.set_cons_succ]
            refine wpAnyH_ready (rs := [23]) (by kernel_rfl) (by simp) ?_
            refine allSkip (w' := set7 wq7 q (.int .i64 e) (.string ⟨nv.s.toArray⟩) (.int .i64 (tv.n)) (.bool (yesL (vals (ofE l e) 3))) (.int .i64 0) (.bool (yesL (vals (ofE l e) 5))) (.bool (yesL (vals (ofE l e) 6)))) rfl (by kernel_rfl) ?_ (below_set7 hHeld Hq0.out _ _ _ _ _ _ _) ?_ AllReadyH.nil
            · have f1 := Hq.out.free
              obtain ⟨z0, z1, z2, z3, z4, z5, z6⟩ := Hq.out.cells.c7
              unfold set7
              go_simp
            have hBe := below_set7 hHeld Hq0.out (.int .i64 e) (.string ⟨nv.s.toArray⟩) (.int .i64 (tv.n)) (.bool (yesL (vals (ofE l e) 3))) (.int .i64 0) (.bool (yesL (vals (ofE l e) 5))) (.bool (yesL (vals (ofE l e) 6)))
            have hbe := Blk.set7 Hq.out (.int .i64 e) (.string ⟨nv.s.toArray⟩) (.int .i64 (tv.n)) (.bool (yesL (vals (ofE l e) 3))) (.int .i64 0) (.bool (yesL (vals (ofE l e) 5))) (.bool (yesL (vals (ofE l e) 6)))
            try simp only [Act.put, List.getElem_toArray, List.getElem_cons_succ, List.getElem_cons_zero, List.setIfInBounds_toArray, List.set_cons_zero, List.set_cons_succ]
            refine wpAnyH_done (by kernel_rfl) ?_ _
            clear hHeld
            go_wp2_with fail
            go_meet
            exact ⟨q, rfl, Hq0.out, hBe, hbe⟩
          refine allVal (v := .pointer (some ⟨wq2.heap.size, 0, none⟩)) (w' := wq2.alloc (.cells #[.int .i64 0, .string ⟨#[]⟩, .int .i64 0, .bool false, .int .i64 0, .bool false, .bool false] 24)) rfl (by kernel_rfl) ?_ (hHeld.alloc hHeld.size _) ?_ AllReadyH.nil
          · go_simp
          have hq := Blk.new wq2 [.int .i64 0, .string ⟨#[]⟩, .int .i64 0, .bool false, .int .i64 0, .bool false, .bool false] 24 rfl
          have hHeld2 := hHeld.alloc hHeld.size (.cells #[.int .i64 0, .string ⟨#[]⟩, .int .i64 0, .bool false, .int .i64 0, .bool false, .bool false] 24)
          have hq0 := hHeld.size
          obtain ⟨q, eq⟩ : ∃ q, q = wq2.heap.size := ⟨_, rfl⟩
          rw [← eq] at hq
          rw [← eq]
          replace Hov := Lib.hid (Sl.below Hov.out (flat_loc _) (alloc_below wq2 (.cells #[.int .i64 0, .string ⟨#[]⟩, .int .i64 0, .bool false, .int .i64 0, .bool false, .bool false] 24)) (Nat.le_refl _))
          have Hq := Lib.hid hq
          have Hq0 : Hid (w4.heap.size ≤ q) := Lib.hid (by rw [eq]; exact hq0)
          clear hHeld hq hq0
          have hHeld := hHeld2
          clear hHeld2 eq
          generalize wq2.alloc (.cells #[.int .i64 0, .string ⟨#[]⟩, .int .i64 0, .bool false, .int .i64 0, .bool false, .bool false] 24) = wq8 at *
          try simp only [Act.put, List.getElem_toArray, List.getElem_cons_succ, List.getElem_cons_zero, List.setIfInBounds_toArray, List.set_cons_zero, List.set_cons_succ]
          refine wpAnyH_ready (rs := [16]) (by kernel_rfl) (by simp) ?_
          refine allCall (f := 63) (args := #[v5]) rfl (by kernel_rfl) (by kernel_rfl) ?_ AllReadyH.nil
          refine yes_any _ _ (vals (ofE l e) 5) _ wq8 Hov.out _ ⟨_, rfl, hHeld, ?_⟩
          clear Hov
          try simp only [Act.put, List.getElem_toArray, List.getElem_cons_succ, List.getElem_cons_zero, List.setIfInBounds_toArray, List.set_cons_zero, List.set_cons_succ]
          refine wpAnyH_ready (rs := [19]) (by kernel_rfl) (by simp) ?_
          refine allCall (f := 62) (args := #[.slice ao l.length cap, .int .i64 e, .int .i64 6]) rfl (by kernel_rfl) (by kernel_rfl) ?_ AllReadyH.nil
          refine values_any lo hi l _ e 6 wq8 (HFt.out _ hHeld) (Nat.le_trans hhw hHeld.size) hlen _ (fun wq9 v6 hB hov => ?_)
          have Hov := Lib.hid hov.sl
          refine ⟨_, rfl, hHeld.trans (hB.mono hHeld.size), ?_⟩
          have hHeld2 := hHeld.trans (hB.mono hHeld.size)
          clear hHeld
          have hHeld := hHeld2
          clear hHeld2 hov
          replace Hq := Lib.hid (Hq.out.below hB Hq.out.lt)
          clear hB
          try simp only [Act.put, List.getElem_toArray, List.getElem_cons_succ, List.getElem_cons_zero, List.setIfInBounds_toArray, List.set_cons_zero, List.set_cons_succ]
          refine wpAnyH_ready (rs := [20]) (by kernel_rfl) (by simp) ?_
          refine allCall (f := 63) (args := #[v6]) rfl (by kernel_rfl) (by kernel_rfl) ?_ AllReadyH.nil
          refine yes_any _ _ (vals (ofE l e) 6) _ wq9 Hov.out _ ⟨_, rfl, hHeld, ?_⟩
          clear Hov
          try simp only [Act.put, List.getElem_toArray, List.getElem_cons_succ, List.getElem_cons_zero, List.setIfInBounds_toArray, List.set_cons_zero, List.set_cons_succ]
          refine wpAnyH_take (i := 21) (v := .agg #[.int .i64 e, .string ⟨nv.s.toArray⟩, .int .i64 (tv.n), .bool (yesL (vals (ofE l e) 3)), .int .i64 0, .bool (yesL (vals (ofE l e) 5)), .bool (yesL (vals (ofE l e) 6))]) rfl (by kernel_rfl) (by kernel_rfl) (by kernel_rfl) (fun _ _ _ h => h) (Or.inl ⟨by rfl, ?_⟩) hHeld ?_
          · intro w' hSw; go_simp
          try simp only [Act.put, List.getElem_toArray, List.getElem_cons_succ, List.getElem_cons_zero, List.setIfInBounds_toArray, List.set_cons_zero, List.set_cons_succ]
          refine wpAnyH_ready (rs := [23]) (by kernel_rfl) (by simp) ?_
          refine allSkip (w' := set7 wq9 q (.int .i64 e) (.string ⟨nv.s.toArray⟩) (.int .i64 (tv.n)) (.bool (yesL (vals (ofE l e) 3))) (.int .i64 0) (.bool (yesL (vals (ofE l e) 5))) (.bool (yesL (vals (ofE l e) 6)))) rfl (by kernel_rfl) ?_ (below_set7 hHeld Hq0.out _ _ _ _ _ _ _) ?_ AllReadyH.nil
          · have f1 := Hq.out.free
            obtain ⟨z0, z1, z2, z3, z4, z5, z6⟩ := Hq.out.cells.c7
            unfold set7
            go_simp
          have hBe := below_set7 hHeld Hq0.out (.int .i64 e) (.string ⟨nv.s.toArray⟩) (.int .i64 (tv.n)) (.bool (yesL (vals (ofE l e) 3))) (.int .i64 0) (.bool (yesL (vals (ofE l e) 5))) (.bool (yesL (vals (ofE l e) 6)))
          have hbe := Blk.set7 Hq.out (.int .i64 e) (.string ⟨nv.s.toArray⟩) (.int .i64 (tv.n)) (.bool (yesL (vals (ofE l e) 3))) (.int .i64 0) (.bool (yesL (vals (ofE l e) 5))) (.bool (yesL (vals (ofE l e) 6)))
          try simp only [Act.put, List.getElem_toArray, List.getElem_cons_succ, List.getElem_cons_zero, List.setIfInBounds_toArray, List.set_cons_zero, List.set_cons_succ]
          refine wpAnyH_done (by kernel_rfl) ?_ _
          clear hHeld
          go_wp2_with fail
          go_meet
          exact ⟨q, rfl, Hq0.out, hBe, hbe⟩
        refine allVal (v := .pointer (some ⟨wq1.heap.size, 0, none⟩)) (w' := wq1.alloc (.cells #[.int .i64 0, .string ⟨#[]⟩, .int .i64 0, .bool false, .int .i64 0, .bool false, .bool false] 24)) rfl (by kernel_rfl) ?_ (hHeld.alloc hHeld.size _) ?_ AllReadyH.nil
        · go_simp
        have hq := Blk.new wq1 [.int .i64 0, .string ⟨#[]⟩, .int .i64 0, .bool false, .int .i64 0, .bool false, .bool false] 24 rfl
        have hHeld2 := hHeld.alloc hHeld.size (.cells #[.int .i64 0, .string ⟨#[]⟩, .int .i64 0, .bool false, .int .i64 0, .bool false, .bool false] 24)
        have hq0 := hHeld.size
        obtain ⟨q, eq⟩ : ∃ q, q = wq1.heap.size := ⟨_, rfl⟩
        rw [← eq] at hq
        rw [← eq]
        have Hq := Lib.hid hq
        have Hq0 : Hid (w4.heap.size ≤ q) := Lib.hid (by rw [eq]; exact hq0)
        clear hHeld hq hq0
        have hHeld := hHeld2
        clear hHeld2 eq
        generalize wq1.alloc (.cells #[.int .i64 0, .string ⟨#[]⟩, .int .i64 0, .bool false, .int .i64 0, .bool false, .bool false] 24) = wq10 at *
        try simp only [Act.put, List.getElem_toArray, List.getElem_cons_succ, List.getElem_cons_zero, List.setIfInBounds_toArray, List.set_cons_zero, List.set_cons_succ]
        refine wpAnyH_ready (rs := [15]) (by kernel_rfl) (by simp) ?_
        refine allCall (f := 62) (args := #[.slice ao l.length cap, .int .i64 e, .int .i64 5]) rfl (by kernel_rfl) (by kernel_rfl) ?_ AllReadyH.nil
        refine values_any lo hi l _ e 5 wq10 (HFt.out _ hHeld) (Nat.le_trans hhw hHeld.size) hlen _ (fun wq11 v5 hB hov => ?_)
        have Hov := Lib.hid hov.sl
        refine ⟨_, rfl, hHeld.trans (hB.mono hHeld.size), ?_⟩
        have hHeld2 := hHeld.trans (hB.mono hHeld.size)
        clear hHeld
        have hHeld := hHeld2
        clear hHeld2 hov
        replace Hq := Lib.hid (Hq.out.below hB Hq.out.lt)
        clear hB
        try simp only [Act.put, List.getElem_toArray, List.getElem_cons_succ, List.getElem_cons_zero, List.setIfInBounds_toArray, List.set_cons_zero, List.set_cons_succ]
        refine wpAnyH_ready (rs := [16]) (by kernel_rfl) (by simp) ?_
        refine allCall (f := 63) (args := #[v5]) rfl (by kernel_rfl) (by kernel_rfl) ?_ AllReadyH.nil
        refine yes_any _ _ (vals (ofE l e) 5) _ wq11 Hov.out _ ⟨_, rfl, hHeld, ?_⟩
        clear Hov
        try simp only [Act.put, List.getElem_toArray, List.getElem_cons_succ, List.getElem_cons_zero, List.setIfInBounds_toArray, List.set_cons_zero, List.set_cons_succ]
        refine wpAnyH_ready (rs := [19]) (by kernel_rfl) (by simp) ?_
        refine allCall (f := 62) (args := #[.slice ao l.length cap, .int .i64 e, .int .i64 6]) rfl (by kernel_rfl) (by kernel_rfl) ?_ AllReadyH.nil
        refine values_any lo hi l _ e 6 wq11 (HFt.out _ hHeld) (Nat.le_trans hhw hHeld.size) hlen _ (fun wq12 v6 hB hov => ?_)
        have Hov := Lib.hid hov.sl
        refine ⟨_, rfl, hHeld.trans (hB.mono hHeld.size), ?_⟩
        have hHeld2 := hHeld.trans (hB.mono hHeld.size)
        clear hHeld
        have hHeld := hHeld2
        clear hHeld2 hov
        replace Hq := Lib.hid (Hq.out.below hB Hq.out.lt)
        clear hB
        try simp only [Act.put, List.getElem_toArray, List.getElem_cons_succ, List.getElem_cons_zero, List.setIfInBounds_toArray, List.set_cons_zero, List.set_cons_succ]
        refine wpAnyH_ready (rs := [20]) (by kernel_rfl) (by simp) ?_
        refine allCall (f := 63) (args := #[v6]) rfl (by kernel_rfl) (by kernel_rfl) ?_ AllReadyH.nil
        refine yes_any _ _ (vals (ofE l e) 6) _ wq12 Hov.out _ ⟨_, rfl, hHeld, ?_⟩
        clear Hov
        try simp only [Act.put, List.getElem_toArray, List.getElem_cons_succ, List.getElem_cons_zero, List.setIfInBounds_toArray, List.set_cons_zero, List.set_cons_succ]
        refine wpAnyH_take (i := 21) (v := .agg #[.int .i64 e, .string ⟨nv.s.toArray⟩, .int .i64 (tv.n), .bool (yesL (vals (ofE l e) 3)), .int .i64 0, .bool (yesL (vals (ofE l e) 5)), .bool (yesL (vals (ofE l e) 6))]) rfl (by kernel_rfl) (by kernel_rfl) (by kernel_rfl) (fun _ _ _ h => h) (Or.inl ⟨by rfl, ?_⟩) hHeld ?_
        · intro w' hSw; go_simp
        try simp only [Act.put, List.getElem_toArray, List.getElem_cons_succ, List.getElem_cons_zero, List.setIfInBounds_toArray, List.set_cons_zero, List.set_cons_succ]
        refine wpAnyH_ready (rs := [23]) (by kernel_rfl) (by simp) ?_
        refine allSkip (w' := set7 wq12 q (.int .i64 e) (.string ⟨nv.s.toArray⟩) (.int .i64 (tv.n)) (.bool (yesL (vals (ofE l e) 3))) (.int .i64 0) (.bool (yesL (vals (ofE l e) 5))) (.bool (yesL (vals (ofE l e) 6)))) rfl (by kernel_rfl) ?_ (below_set7 hHeld Hq0.out _ _ _ _ _ _ _) ?_ AllReadyH.nil
        · have f1 := Hq.out.free
          obtain ⟨z0, z1, z2, z3, z4, z5, z6⟩ := Hq.out.cells.c7
          unfold set7
          go_simp
        have hBe := below_set7 hHeld Hq0.out (.int .i64 e) (.string ⟨nv.s.toArray⟩) (.int .i64 (tv.n)) (.bool (yesL (vals (ofE l e) 3))) (.int .i64 0) (.bool (yesL (vals (ofE l e) 5))) (.bool (yesL (vals (ofE l e) 6)))
        have hbe := Blk.set7 Hq.out (.int .i64 e) (.string ⟨nv.s.toArray⟩) (.int .i64 (tv.n)) (.bool (yesL (vals (ofE l e) 3))) (.int .i64 0) (.bool (yesL (vals (ofE l e) 5))) (.bool (yesL (vals (ofE l e) 6)))
        try simp only [Act.put, List.getElem_toArray, List.getElem_cons_succ, List.getElem_cons_zero, List.setIfInBounds_toArray, List.set_cons_zero, List.set_cons_succ]
        refine wpAnyH_done (by kernel_rfl) ?_ _
        clear hHeld
        go_wp2_with fail
        go_meet
        exact ⟨q, rfl, Hq0.out, hBe, hbe⟩
      refine allVal (v := .pointer (some ⟨wq1.heap.size, 0, none⟩)) (w' := wq1.alloc (.cells #[.int .i64 0, .string ⟨#[]⟩, .int .i64 0, .bool false, .int .i64 0, .bool false, .bool false] 24)) rfl (by kernel_rfl) ?_ (hHeld.alloc hHeld.size _) ?_ AllReadyH.nil
      · go_simp
      have hq := Blk.new wq1 [.int .i64 0, .string ⟨#[]⟩, .int .i64 0, .bool false, .int .i64 0, .bool false, .bool false] 24 rfl
      have hHeld2 := hHeld.alloc hHeld.size (.cells #[.int .i64 0, .string ⟨#[]⟩, .int .i64 0, .bool false, .int .i64 0, .bool false, .bool false] 24)
      have hq0 := hHeld.size
      obtain ⟨q, eq⟩ : ∃ q, q = wq1.heap.size := ⟨_, rfl⟩
      rw [← eq] at hq
      rw [← eq]
      replace Hov := Lib.hid (Sl.below Hov.out (flat_loc _) (alloc_below wq1 (.cells #[.int .i64 0, .string ⟨#[]⟩, .int .i64 0, .bool false, .int .i64 0, .bool false, .bool false] 24)) (Nat.le_refl _))
      have Hq := Lib.hid hq
      have Hq0 : Hid (w4.heap.size ≤ q) := Lib.hid (by rw [eq]; exact hq0)
      clear hHeld hq hq0
      have hHeld := hHeld2
      clear hHeld2 eq
      generalize wq1.alloc (.cells #[.int .i64 0, .string ⟨#[]⟩, .int .i64 0, .bool false, .int .i64 0, .bool false, .bool false] 24) = wq13 at *
      try simp only [Act.put, List.getElem_toArray, List.getElem_cons_succ, List.getElem_cons_zero, List.setIfInBounds_toArray, List.set_cons_zero, List.set_cons_succ]
      refine wpAnyH_ready (rs := [12]) (by kernel_rfl) (by simp) ?_
      refine allCall (f := 63) (args := #[v3]) rfl (by kernel_rfl) (by kernel_rfl) ?_ AllReadyH.nil
      refine yes_any _ _ (vals (ofE l e) 3) _ wq13 Hov.out _ ⟨_, rfl, hHeld, ?_⟩
      clear Hov
      try simp only [Act.put, List.getElem_toArray, List.getElem_cons_succ, List.getElem_cons_zero, List.setIfInBounds_toArray, List.set_cons_zero, List.set_cons_succ]
      refine wpAnyH_ready (rs := [15]) (by kernel_rfl) (by simp) ?_
      refine allCall (f := 62) (args := #[.slice ao l.length cap, .int .i64 e, .int .i64 5]) rfl (by kernel_rfl) (by kernel_rfl) ?_ AllReadyH.nil
      refine values_any lo hi l _ e 5 wq13 (HFt.out _ hHeld) (Nat.le_trans hhw hHeld.size) hlen _ (fun wq14 v5 hB hov => ?_)
      have Hov := Lib.hid hov.sl
      refine ⟨_, rfl, hHeld.trans (hB.mono hHeld.size), ?_⟩
      have hHeld2 := hHeld.trans (hB.mono hHeld.size)
      clear hHeld
      have hHeld := hHeld2
      clear hHeld2 hov
      replace Hq := Lib.hid (Hq.out.below hB Hq.out.lt)
      clear hB
      try simp only [Act.put, List.getElem_toArray, List.getElem_cons_succ, List.getElem_cons_zero, List.setIfInBounds_toArray, List.set_cons_zero, List.set_cons_succ]
      refine wpAnyH_ready (rs := [16]) (by kernel_rfl) (by simp) ?_
      refine allCall (f := 63) (args := #[v5]) rfl (by kernel_rfl) (by kernel_rfl) ?_ AllReadyH.nil
      refine yes_any _ _ (vals (ofE l e) 5) _ wq14 Hov.out _ ⟨_, rfl, hHeld, ?_⟩
      clear Hov
      try simp only [Act.put, List.getElem_toArray, List.getElem_cons_succ, List.getElem_cons_zero, List.setIfInBounds_toArray, List.set_cons_zero, List.set_cons_succ]
      refine wpAnyH_ready (rs := [19]) (by kernel_rfl) (by simp) ?_
      refine allCall (f := 62) (args := #[.slice ao l.length cap, .int .i64 e, .int .i64 6]) rfl (by kernel_rfl) (by kernel_rfl) ?_ AllReadyH.nil
      refine values_any lo hi l _ e 6 wq14 (HFt.out _ hHeld) (Nat.le_trans hhw hHeld.size) hlen _ (fun wq15 v6 hB hov => ?_)
      have Hov := Lib.hid hov.sl
      refine ⟨_, rfl, hHeld.trans (hB.mono hHeld.size), ?_⟩
      have hHeld2 := hHeld.trans (hB.mono hHeld.size)
      clear hHeld
      have hHeld := hHeld2
      clear hHeld2 hov
      replace Hq := Lib.hid (Hq.out.below hB Hq.out.lt)
      clear hB
      try simp only [Act.put, List.getElem_toArray, List.getElem_cons_succ, List.getElem_cons_zero, List.setIfInBounds_toArray, List.set_cons_zero, List.set_cons_succ]
      refine wpAnyH_ready (rs := [20]) (by kernel_rfl) (by simp) ?_
      refine allCall (f := 63) (args := #[v6]) rfl (by kernel_rfl) (by kernel_rfl) ?_ AllReadyH.nil
      refine yes_any _ _ (vals (ofE l e) 6) _ wq15 Hov.out _ ⟨_, rfl, hHeld, ?_⟩
      clear Hov
      try simp only [Act.put, List.getElem_toArray, List.getElem_cons_succ, List.getElem_cons_zero, List.setIfInBounds_toArray, List.set_cons_zero, List.set_cons_succ]
      refine wpAnyH_take (i := 21) (v := .agg #[.int .i64 e, .string ⟨nv.s.toArray⟩, .int .i64 (tv.n), .bool (yesL (vals (ofE l e) 3)), .int .i64 0, .bool (yesL (vals (ofE l e) 5)), .bool (yesL (vals (ofE l e) 6))]) rfl (by kernel_rfl) (by kernel_rfl) (by kernel_rfl) (fun _ _ _ h => h) (Or.inl ⟨by rfl, ?_⟩) hHeld ?_
      · intro w' hSw; go_simp
      try simp only [Act.put, List.getElem_toArray, List.getElem_cons_succ, List.getElem_cons_zero, List.setIfInBounds_toArray, List.set_cons_zero, List.set_cons_succ]
      refine wpAnyH_ready (rs := [23]) (by kernel_rfl) (by simp) ?_
      refine allSkip (w' := set7 wq15 q (.int .i64 e) (.string ⟨nv.s.toArray⟩) (.int .i64 (tv.n)) (.bool (yesL (vals (ofE l e) 3))) (.int .i64 0) (.bool (yesL (vals (ofE l e) 5))) (.bool (yesL (vals (ofE l e) 6)))) rfl (by kernel_rfl) ?_ (below_set7 hHeld Hq0.out _ _ _ _ _ _ _) ?_ AllReadyH.nil
      · have f1 := Hq.out.free
        obtain ⟨z0, z1, z2, z3, z4, z5, z6⟩ := Hq.out.cells.c7
        unfold set7
        go_simp
      have hBe := below_set7 hHeld Hq0.out (.int .i64 e) (.string ⟨nv.s.toArray⟩) (.int .i64 (tv.n)) (.bool (yesL (vals (ofE l e) 3))) (.int .i64 0) (.bool (yesL (vals (ofE l e) 5))) (.bool (yesL (vals (ofE l e) 6)))
      have hbe := Blk.set7 Hq.out (.int .i64 e) (.string ⟨nv.s.toArray⟩) (.int .i64 (tv.n)) (.bool (yesL (vals (ofE l e) 3))) (.int .i64 0) (.bool (yesL (vals (ofE l e) 5))) (.bool (yesL (vals (ofE l e) 6)))
      try simp only [Act.put, List.getElem_toArray, List.getElem_cons_succ, List.getElem_cons_zero, List.setIfInBounds_toArray, List.set_cons_zero, List.set_cons_succ]
      refine wpAnyH_done (by kernel_rfl) ?_ _
      clear hHeld
      go_wp2_with fail
      go_meet
      exact ⟨q, rfl, Hq0.out, hBe, hbe⟩
    refine allVal (v := .pointer (some ⟨w4.drew.heap.size, 0, none⟩)) (w' := w4.drew.alloc (.cells #[.int .i64 0, .string ⟨#[]⟩, .int .i64 0, .bool false, .int .i64 0, .bool false, .bool false] 24)) rfl (by kernel_rfl) ?_ (hHeld.alloc hHeld.size _) ?_ AllReadyH.nil
    · go_simp
    have hq := Blk.new w4.drew [.int .i64 0, .string ⟨#[]⟩, .int .i64 0, .bool false, .int .i64 0, .bool false, .bool false] 24 rfl
    have hHeld2 := hHeld.alloc hHeld.size (.cells #[.int .i64 0, .string ⟨#[]⟩, .int .i64 0, .bool false, .int .i64 0, .bool false, .bool false] 24)
    have hq0 := hHeld.size
    obtain ⟨q, eq⟩ : ∃ q, q = w4.drew.heap.size := ⟨_, rfl⟩
    rw [← eq] at hq
    rw [← eq]
    have Hq := Lib.hid hq
    have Hq0 : Hid (w4.heap.size ≤ q) := Lib.hid (by rw [eq]; exact hq0)
    clear hHeld hq hq0
    have hHeld := hHeld2
    clear hHeld2 eq
    generalize w4.drew.alloc (.cells #[.int .i64 0, .string ⟨#[]⟩, .int .i64 0, .bool false, .int .i64 0, .bool false, .bool false] 24) = wq16 at *
    try simp only [Act.put, List.getElem_toArray, List.getElem_cons_succ, List.getElem_cons_zero, List.setIfInBounds_toArray, List.set_cons_zero, List.set_cons_succ]
    refine wpAnyH_ready (rs := [11]) (by kernel_rfl) (by simp) ?_
    refine allCall (f := 62) (args := #[.slice ao l.length cap, .int .i64 e, .int .i64 3]) rfl (by kernel_rfl) (by kernel_rfl) ?_ AllReadyH.nil
    refine values_any lo hi l _ e 3 wq16 (HFt.out _ hHeld) (Nat.le_trans hhw hHeld.size) hlen _ (fun wq17 v3 hB hov => ?_)
    have Hov := Lib.hid hov.sl
    refine ⟨_, rfl, hHeld.trans (hB.mono hHeld.size), ?_⟩
    have hHeld2 := hHeld.trans (hB.mono hHeld.size)
    clear hHeld
    have hHeld := hHeld2
    clear hHeld2 hov
    replace Hq := Lib.hid (Hq.out.below hB Hq.out.lt)
    clear hB
    try simp only [Act.put, List.getElem_toArray, List.getElem_cons_succ, List.getElem_cons_zero, List.setIfInBounds_toArray, List.set_cons_zero, List.set_cons_succ]
    refine wpAnyH_ready (rs := [12]) (by kernel_rfl) (by simp) ?_
    refine allCall (f := 63) (args := #[v3]) rfl (by kernel_rfl) (by kernel_rfl) ?_ AllReadyH.nil
    refine yes_any _ _ (vals (ofE l e) 3) _ wq17 Hov.out _ ⟨_, rfl, hHeld, ?_⟩
    clear Hov
    try simp only [Act.put, List.getElem_toArray, List.getElem_cons_succ, List.getElem_cons_zero, List.setIfInBounds_toArray, List.set_cons_zero, List.set_cons_succ]
    refine wpAnyH_ready (rs := [15]) (by kernel_rfl) (by simp) ?_
    refine allCall (f := 62) (args := #[.slice ao l.length cap, .int .i64 e, .int .i64 5]) rfl (by kernel_rfl) (by kernel_rfl) ?_ AllReadyH.nil
    refine values_any lo hi l _ e 5 wq17 (HFt.out _ hHeld) (Nat.le_trans hhw hHeld.size) hlen _ (fun wq18 v5 hB hov => ?_)
    have Hov := Lib.hid hov.sl
    refine ⟨_, rfl, hHeld.trans (hB.mono hHeld.size), ?_⟩
    have hHeld2 := hHeld.trans (hB.mono hHeld.size)
    clear hHeld
    have hHeld := hHeld2
    clear hHeld2 hov
    replace Hq := Lib.hid (Hq.out.below hB Hq.out.lt)
    clear hB
    try simp only [Act.put, List.getElem_toArray, List.getElem_cons_succ, List.getElem_cons_zero, List.setIfInBounds_toArray, List.set_cons_zero, List.set_cons_succ]
    refine wpAnyH_ready (rs := [16]) (by kernel_rfl) (by simp) ?_
    refine allCall (f := 63) (args := #[v5]) rfl (by kernel_rfl) (by kernel_rfl) ?_ AllReadyH.nil
    refine yes_any _ _ (vals (ofE l e) 5) _ wq18 Hov.out _ ⟨_, rfl, hHeld, ?_⟩
    clear Hov
    try simp only [Act.put, List.getElem_toArray, List.getElem_cons_succ, List.getElem_cons_zero, List.setIfInBounds_toArray, List.set_cons_zero, List.set_cons_succ]
    refine wpAnyH_ready (rs := [19]) (by kernel_rfl) (by simp) ?_
    refine allCall (f := 62) (args := #[.slice ao l.length cap, .int .i64 e, .int .i64 6]) rfl (by kernel_rfl) (by kernel_rfl) ?_ AllReadyH.nil
    refine values_any lo hi l _ e 6 wq18 (HFt.out _ hHeld) (Nat.le_trans hhw hHeld.size) hlen _ (fun wq19 v6 hB hov => ?_)
    have Hov := Lib.hid hov.sl
    refine ⟨_, rfl, hHeld.trans (hB.mono hHeld.size), ?_⟩
    have hHeld2 := hHeld.trans (hB.mono hHeld.size)
    clear hHeld
    have hHeld := hHeld2
    clear hHeld2 hov
    replace Hq := Lib.hid (Hq.out.below hB Hq.out.lt)
    clear hB
    try simp only [Act.put, List.getElem_toArray, List.getElem_cons_succ, List.getElem_cons_zero, List.setIfInBounds_toArray, List.set_cons_zero, List.set_cons_succ]
    refine wpAnyH_ready (rs := [20]) (by kernel_rfl) (by simp) ?_
    refine allCall (f := 63) (args := #[v6]) rfl (by kernel_rfl) (by kernel_rfl) ?_ AllReadyH.nil
    refine yes_any _ _ (vals (ofE l e) 6) _ wq19 Hov.out _ ⟨_, rfl, hHeld, ?_⟩
    clear Hov
    try simp only [Act.put, List.getElem_toArray, List.getElem_cons_succ, List.getElem_cons_zero, List.setIfInBounds_toArray, List.set_cons_zero, List.set_cons_succ]
    refine wpAnyH_take (i := 21) (v := .agg #[.int .i64 e, .string ⟨nv.s.toArray⟩, .int .i64 (tv.n), .bool (yesL (vals (ofE l e) 3)), .int .i64 0, .bool (yesL (vals (ofE l e) 5)), .bool (yesL (vals (ofE l e) 6))]) rfl (by kernel_rfl) (by kernel_rfl) (by kernel_rfl) (fun _ _ _ h => h) (Or.inl ⟨by rfl, ?_⟩) hHeld ?_
    · intro w' hSw; go_simp
    try simp only [Act.put, List.getElem_toArray, List.getElem_cons_succ, List.getElem_cons_zero, List.setIfInBounds_toArray, List.set_cons_zero, List.set_cons_succ]
    refine wpAnyH_ready (rs := [23]) (by kernel_rfl) (by simp) ?_
    refine allSkip (w' := set7 wq19 q (.int .i64 e) (.string ⟨nv.s.toArray⟩) (.int .i64 (tv.n)) (.bool (yesL (vals (ofE l e) 3))) (.int .i64 0) (.bool (yesL (vals (ofE l e) 5))) (.bool (yesL (vals (ofE l e) 6)))) rfl (by kernel_rfl) ?_ (below_set7 hHeld Hq0.out _ _ _ _ _ _ _) ?_ AllReadyH.nil
    · have f1 := Hq.out.free
      obtain ⟨z0, z1, z2, z3, z4, z5, z6⟩ := Hq.out.cells.c7
      unfold set7
      go_simp
    have hBe := below_set7 hHeld Hq0.out (.int .i64 e) (.string ⟨nv.s.toArray⟩) (.int .i64 (tv.n)) (.bool (yesL (vals (ofE l e) 3))) (.int .i64 0) (.bool (yesL (vals (ofE l e) 5))) (.bool (yesL (vals (ofE l e) 6)))
    have hbe := Blk.set7 Hq.out (.int .i64 e) (.string ⟨nv.s.toArray⟩) (.int .i64 (tv.n)) (.bool (yesL (vals (ofE l e) 3))) (.int .i64 0) (.bool (yesL (vals (ofE l e) 5))) (.bool (yesL (vals (ofE l e) 6)))
    try simp only [Act.put, List.getElem_toArray, List.getElem_cons_succ, List.getElem_cons_zero, List.setIfInBounds_toArray, List.set_cons_zero, List.set_cons_succ]
    refine wpAnyH_done (by kernel_rfl) ?_ _
    clear hHeld
    go_wp2_with fail
    go_meet
    exact ⟨q, rfl, Hq0.out, hBe, hbe⟩
  case rest =>
    obtain ⟨q, rfl, hq1, hBx, hbx⟩ := hcut
    have hzx := hBx.size
    have Hz3 := Lib.hid (Hz2.out.below hBx Hz2.out.lt)
    have HB3 := Lib.hid (HB2.out.trans (hBx.mono HB2.out.size))
    have Hq3 := Lib.hid hbx
    have Hf3 := Lib.hid (HFt.out _ hBx)
    have hql := hbx.lt
    have hwq : w.heap.size < q := by have := Hz2.out.lt; omega
    clear hBx hbx n0 n1 n2 t0 t1 t2
    go_wp2_with fail
    refine values_any lo hi l _ e 4 _ Hf3.out (by omega) hlen _ (fun w5 v9 hB5 ho9 => ?_)
    have hzs5 := hB5.size
    have Hz5 := Lib.hid (Hz3.out.below hB5 Hz3.out.lt)
    have Hq5 := Lib.hid (Hq3.out.below hB5 hql)
    have HB5 := Lib.hid (HB3.out.trans (hB5.mono HB3.out.size))
    have Ho9 := Lib.hid ho9
    have hql5 := Hq5.out.lt
    obtain ⟨U, hU⟩ : ∃ U, U = vals (ofE l e) 4 := ⟨_, rfl⟩
    rw [← hU] at Ho9 hsome
    obtain ⟨p9, cu, rfl⟩ := Own.slice Ho9.out
    have hUl : U.length ≤ 2000000000000 := by rw [hU]; have := vals_len l e 4; omega
    clear hB5 ho9 Hq3 Hz3 HB3 hU
    go_wp2_with fail
    go_loopw [10] (fun t10 wr => ∃ k : Nat, k ≤ U.length ∧ t10 = .int .i64 k ∧ Below w.heap.size w wr ∧ Blk wr q [.int .i64 e, .string ⟨nv.s.toArray⟩, .int .i64 tv.n, .bool (yesL (vals (ofE l e) 3)), .int .i64 (uniqL 0 (U.take k)), .bool (yesL (vals (ofE l e) 5)), .bool (yesL (vals (ofE l e) 6))] 24 ∧ Blk wr w.heap.size [.int .i64 0, .string ⟨#[]⟩, .int .i64 0, .bool false, .int .i64 0, .bool false, .bool false] 24 ∧ OwnV (q + 1) wr (.slice p9 U.length cu) U) (fun t10 _ => U.length - (intOf t10).toNat)
    case atStart => exact ⟨0, Nat.zero_le _, rfl, HB5.out, Hq5.out, Hz5.out, by
      exact ⟨Ho9.out.1, Ho9.out.2.imp id fun ⟨g, cap, cur, e1, h1, h2⟩ => ⟨g, cap, cur, e1, by omega, h2⟩⟩⟩
    case round =>
      obtain ⟨k, hkU, rfl, hB, hq, hz, hU9⟩ := hrel
      obtain ⟨wo, ewo⟩ : ∃ x, x = wr := ⟨_, rfl⟩
      subst ewo
      have HB := Lib.hid hB
      have Hq := Lib.hid hq
      have Hz := Lib.hid hz
      have HU := Lib.hid hU9
      have kk0 : (0 : Int) ≤ (k : Int) := by omega
      by_cases hlt : k < U.length
      · have kkl : (k : Int) < (U.length : Int) := by omega
        obtain ⟨au, cu', eu, -, -, -, hcu⟩ := (OwnV.sl hU9).form
        injection eu with eu _ eu'
        subst eu eu'
        obtain ⟨gu, off, rfl, hg1, hg2, hcc⟩ := hcu k hlt
        obtain ⟨gu2, cu2, eu2, -, -, -, -, -, -⟩ := Own.form hU9 (fun e => by rw [e] at hlt; exact absurd hlt (Nat.not_lt_zero _))
        injection eu2 with eu2
        injection eu2 with eu2
        injection eu2 with eg eu2
        subst eg eu2
        obtain ⟨cs, _, hcs, rfl⟩ := hcc k hlt
        obtain ⟨x0, x1, x2⟩ := hcs.c3
        rw [Nat.zero_add] at x0 x1 x2
        have Hst := Lib.hid (uniqL_take U k hlt)
        have q4 := (CellsAt.c7 hq.cells).2.2.2.2.1
        rw [Nat.zero_add] at q4
        have f4 := hq.free 4
        clear hcs hcu hcc hB hq hz hU9
        generalize hx : U[k] = x at *
        clear hx
        go_upto_region 10 with fail
        by_cases hk : x.kind = 1
        · by_cases hn1 : 1 ≤ x.n
          · by_cases hn2 : x.n ≤ 2
            · by_cases hgt : uniqL 0 (U.take k) < x.n
              ·
                refine wp_region_held_drew (S := fun w' => w' = wo.drew) (by kernel_rfl) rfl (fun hHeld => ?_)
                refine wpAnyH_take (i := 0) (v := .slice (some ⟨gu, 0, none⟩) U.length cu) rfl (by kernel_rfl) (by kernel_rfl) (by kernel_rfl) (fun _ _ _ h => h) (Or.inl ⟨by rfl, ?_⟩) hHeld ?_
                · intro w' hSw; subst hSw; go_simp <;> omega
                try simp only [Act.put, List.getElem_toArray, List.getElem_cons_succ, List.getElem_cons_zero, List.setIfInBounds_toArray, List.set_cons_zero, List.set_cons_succ]
                refine wpAnyH_take (i := 1) (v := .int .i64 ((k : Int))) rfl (by kernel_rfl) (by kernel_rfl) (by kernel_rfl) (fun _ _ _ h => h) (Or.inl ⟨by rfl, ?_⟩) hHeld ?_
                · intro w' hSw; subst hSw; go_simp <;> omega
                try simp only [Act.put, List.getElem_toArray, List.getElem_cons_succ, List.getElem_cons_zero, List.setIfInBounds_toArray, List.set_cons_zero, List.set_cons_succ]
                refine wpAnyH_take (i := 2) (v := .pointer (some ⟨gu, k * 3, none⟩)) rfl (by kernel_rfl) (by kernel_rfl) (by kernel_rfl) (fun _ _ _ h => h) (Or.inl ⟨by rfl, ?_⟩) hHeld ?_
                · intro w' hSw; subst hSw; go_simp <;> omega
                try simp only [Act.put, List.getElem_toArray, List.getElem_cons_succ, List.getElem_cons_zero, List.setIfInBounds_toArray, List.set_cons_zero, List.set_cons_succ]
                refine wpAnyH_take (i := 3) (v := .pointer (some ⟨gu, k * 3, none⟩)) rfl (by kernel_rfl) (by kernel_rfl) (by kernel_rfl) (fun _ _ _ h => h) (Or.inl ⟨by rfl, ?_⟩) hHeld ?_
                · intro w' hSw; subst hSw; go_simp <;> omega
                try simp only [Act.put, List.getElem_toArray, List.getElem_cons_succ, List.getElem_cons_zero, List.setIfInBounds_toArray, List.set_cons_zero, List.set_cons_succ]
                refine wpAnyH_take (i := 4) (v := .int .i64 (x.kind)) rfl (by kernel_rfl) (by kernel_rfl) (by kernel_rfl) (fun _ _ _ h => h) (Or.inl ⟨by rfl, ?_⟩) hHeld ?_
                · intro w' hSw; subst hSw; have kx := x0; go_simp
                try simp only [Act.put, List.getElem_toArray, List.getElem_cons_succ, List.getElem_cons_zero, List.setIfInBounds_toArray, List.set_cons_zero, List.set_cons_succ]
                refine wpAnyH_take (i := 5) (v := .bool true) rfl (by kernel_rfl) (by kernel_rfl) (by kernel_rfl) (fun _ _ _ h => h) (Or.inl ⟨by rfl, ?_⟩) hHeld ?_
                · intro w' hSw; subst hSw; go_simp <;> omega
                try simp only [Act.put, List.getElem_toArray, List.getElem_cons_succ, List.getElem_cons_zero, List.setIfInBounds_toArray, List.set_cons_zero, List.set_cons_succ]
                refine wpAnyH_take (i := 6) (v := .bool true) rfl (by kernel_rfl) (by kernel_rfl) (by kernel_rfl) (fun _ _ _ h => h) (Or.inl ⟨by rfl, ?_⟩) hHeld ?_
                · intro w' hSw; subst hSw; go_simp <;> omega
                try simp only [Act.put, List.getElem_toArray, List.getElem_cons_succ, List.getElem_cons_zero, List.setIfInBounds_toArray, List.set_cons_zero, List.set_cons_succ]
                refine wpAnyH_take (i := 7) (v := .slice (some ⟨gu, 0, none⟩) U.length cu) rfl (by kernel_rfl) (by kernel_rfl) (by kernel_rfl) (fun _ _ _ h => h) (Or.inl ⟨by rfl, ?_⟩) hHeld ?_
                · intro w' hSw; subst hSw; go_simp <;> omega
                try simp only [Act.put, List.getElem_toArray, List.getElem_cons_succ, List.getElem_cons_zero, List.setIfInBounds_toArray, List.set_cons_zero, List.set_cons_succ]
                refine wpAnyH_take (i := 8) (v := .int .i64 ((k : Int))) rfl (by kernel_rfl) (by kernel_rfl) (by kernel_rfl) (fun _ _ _ h => h) (Or.inl ⟨by rfl, ?_⟩) hHeld ?_
                · intro w' hSw; subst hSw; go_simp <;> omega
                try simp only [Act.put, List.getElem_toArray, List.getElem_cons_succ, List.getElem_cons_zero, List.setIfInBounds_toArray, List.set_cons_zero, List.set_cons_succ]
                refine wpAnyH_take (i := 9) (v := .pointer (some ⟨gu, k * 3, none⟩)) rfl (by kernel_rfl) (by kernel_rfl) (by kernel_rfl) (fun _ _ _ h => h) (Or.inl ⟨by rfl, ?_⟩) hHeld ?_
                · intro w' hSw; subst hSw; go_simp <;> omega
                try simp only [Act.put, List.getElem_toArray, List.getElem_cons_succ, List.getElem_cons_zero, List.setIfInBounds_toArray, List.set_cons_zero, List.set_cons_succ]
                refine wpAnyH_take (i := 10) (v := .pointer (some ⟨gu, k * 3 + 1, none⟩)) rfl (by kernel_rfl) (by kernel_rfl) (by kernel_rfl) (fun _ _ _ h => h) (Or.inl ⟨by rfl, ?_⟩) hHeld ?_
                · intro w' hSw; subst hSw; go_simp <;> omega
                try simp only [Act.put, List.getElem_toArray, List.getElem_cons_succ, List.getElem_cons_zero, List.setIfInBounds_toArray, List.set_cons_zero, List.set_cons_succ]
                refine wpAnyH_take (i := 11) (v := .int .i64 (x.n)) rfl (by kernel_rfl) (by kernel_rfl) (by kernel_rfl) (fun _ _ _ h => h) (Or.inl ⟨by rfl, ?_⟩) hHeld ?_
                · intro w' hSw; subst hSw; have kx := x1; go_simp
                try simp only [Act.put, List.getElem_toArray, List.getElem_cons_succ, List.getElem_cons_zero, List.setIfInBounds_toArray, List.set_cons_zero, List.set_cons_succ]
                refine wpAnyH_take (i := 12) (v := .bool true) rfl (by kernel_rfl) (by kernel_rfl) (by kernel_rfl) (fun _ _ _ h => h) (Or.inl ⟨by rfl, ?_⟩) hHeld ?_
                · intro w' hSw; subst hSw; go_simp <;> omega
                try simp only [Act.put, List.getElem_toArray, List.getElem_cons_succ, List.getElem_cons_zero, List.setIfInBounds_toArray, List.set_cons_zero, List.set_cons_succ]
                refine wpAnyH_take (i := 13) (v := .bool true) rfl (by kernel_rfl) (by kernel_rfl) (by kernel_rfl) (fun _ _ _ h => h) (Or.inl ⟨by rfl, ?_⟩) hHeld ?_
                · intro w' hSw; subst hSw; go_simp <;> omega
                try simp only [Act.put, List.getElem_toArray, List.getElem_cons_succ, List.getElem_cons_zero, List.setIfInBounds_toArray, List.set_cons_zero, List.set_cons_succ]
                refine wpAnyH_take (i := 14) (v := .bool true) rfl (by kernel_rfl) (by kernel_rfl) (by kernel_rfl) (fun _ _ _ h => h) (Or.inl ⟨by rfl, ?_⟩) hHeld ?_
                · intro w' hSw; subst hSw; go_simp <;> omega
                try simp only [Act.put, List.getElem_toArray, List.getElem_cons_succ, List.getElem_cons_zero, List.setIfInBounds_toArray, List.set_cons_zero, List.set_cons_succ]
                refine wpAnyH_take (i := 15) (v := .slice (some ⟨gu, 0, none⟩) U.length cu) rfl (by kernel_rfl) (by kernel_rfl) (by kernel_rfl) (fun _ _ _ h => h) (Or.inl ⟨by rfl, ?_⟩) hHeld ?_
                · intro w' hSw; subst hSw; go_simp <;> omega
                try simp only [Act.put, List.getElem_toArray, List.getElem_cons_succ, List.getElem_cons_zero, List.setIfInBounds_toArray, List.set_cons_zero, List.set_cons_succ]
                refine wpAnyH_take (i := 16) (v := .int .i64 ((k : Int))) rfl (by kernel_rfl) (by kernel_rfl) (by kernel_rfl) (fun _ _ _ h => h) (Or.inl ⟨by rfl, ?_⟩) hHeld ?_
                · intro w' hSw; subst hSw; go_simp <;> omega
                try simp only [Act.put, List.getElem_toArray, List.getElem_cons_succ, List.getElem_cons_zero, List.setIfInBounds_toArray, List.set_cons_zero, List.set_cons_succ]
                refine wpAnyH_take (i := 17) (v := .pointer (some ⟨gu, k * 3, none⟩)) rfl (by kernel_rfl) (by kernel_rfl) (by kernel_rfl) (fun _ _ _ h => h) (Or.inl ⟨by rfl, ?_⟩) hHeld ?_
                · intro w' hSw; subst hSw; go_simp <;> omega
                try simp only [Act.put, List.getElem_toArray, List.getElem_cons_succ, List.getElem_cons_zero, List.setIfInBounds_toArray, List.set_cons_zero, List.set_cons_succ]
                refine wpAnyH_take (i := 18) (v := .pointer (some ⟨gu, k * 3 + 1, none⟩)) rfl (by kernel_rfl) (by kernel_rfl) (by kernel_rfl) (fun _ _ _ h => h) (Or.inl ⟨by rfl, ?_⟩) hHeld ?_
                · intro w' hSw; subst hSw; go_simp <;> omega
                try simp only [Act.put, List.getElem_toArray, List.getElem_cons_succ, List.getElem_cons_zero, List.setIfInBounds_toArray, List.set_cons_zero, List.set_cons_succ]
                refine wpAnyH_take (i := 19) (v := .int .i64 (x.n)) rfl (by kernel_rfl) (by kernel_rfl) (by kernel_rfl) (fun _ _ _ h => h) (Or.inl ⟨by rfl, ?_⟩) hHeld ?_
                · intro w' hSw; subst hSw; have kx := x1; go_simp
                try simp only [Act.put, List.getElem_toArray, List.getElem_cons_succ, List.getElem_cons_zero, List.setIfInBounds_toArray, List.set_cons_zero, List.set_cons_succ]
                refine wpAnyH_take (i := 20) (v := .bool true) rfl (by kernel_rfl) (by kernel_rfl) (by kernel_rfl) (fun _ _ _ h => h) (Or.inl ⟨by rfl, ?_⟩) hHeld ?_
                · intro w' hSw; subst hSw; go_simp <;> omega
                try simp only [Act.put, List.getElem_toArray, List.getElem_cons_succ, List.getElem_cons_zero, List.setIfInBounds_toArray, List.set_cons_zero, List.set_cons_succ]
                refine wpAnyH_take (i := 21) (v := .bool true) rfl (by kernel_rfl) (by kernel_rfl) (by kernel_rfl) (fun _ _ _ h => h) (Or.inl ⟨by rfl, ?_⟩) hHeld ?_
                · intro w' hSw; subst hSw; go_simp <;> omega
                try simp only [Act.put, List.getElem_toArray, List.getElem_cons_succ, List.getElem_cons_zero, List.setIfInBounds_toArray, List.set_cons_zero, List.set_cons_succ]
                refine wpAnyH_take (i := 22) (v := .bool true) rfl (by kernel_rfl) (by kernel_rfl) (by kernel_rfl) (fun _ _ _ h => h) (Or.inl ⟨by rfl, ?_⟩) hHeld ?_
                · intro w' hSw; subst hSw; go_simp <;> omega
                try simp only [Act.put, List.getElem_toArray, List.getElem_cons_succ, List.getElem_cons_zero, List.setIfInBounds_toArray, List.set_cons_zero, List.set_cons_succ]
                refine wpAnyH_take (i := 23) (v := .slice (some ⟨gu, 0, none⟩) U.length cu) rfl (by kernel_rfl) (by kernel_rfl) (by kernel_rfl) (fun _ _ _ h => h) (Or.inl ⟨by rfl, ?_⟩) hHeld ?_
                · intro w' hSw; subst hSw; go_simp <;> omega
                try simp only [Act.put, List.getElem_toArray, List.getElem_cons_succ, List.getElem_cons_zero, List.setIfInBounds_toArray, List.set_cons_zero, List.set_cons_succ]
                refine wpAnyH_take (i := 24) (v := .int .i64 ((k : Int))) rfl (by kernel_rfl) (by kernel_rfl) (by kernel_rfl) (fun _ _ _ h => h) (Or.inl ⟨by rfl, ?_⟩) hHeld ?_
                · intro w' hSw; subst hSw; go_simp <;> omega
                try simp only [Act.put, List.getElem_toArray, List.getElem_cons_succ, List.getElem_cons_zero, List.setIfInBounds_toArray, List.set_cons_zero, List.set_cons_succ]
                refine wpAnyH_take (i := 25) (v := .pointer (some ⟨gu, k * 3, none⟩)) rfl (by kernel_rfl) (by kernel_rfl) (by kernel_rfl) (fun _ _ _ h => h) (Or.inl ⟨by rfl, ?_⟩) hHeld ?_
                · intro w' hSw; subst hSw; go_simp <;> omega
                try simp only [Act.put, List.getElem_toArray, List.getElem_cons_succ, List.getElem_cons_zero, List.setIfInBounds_toArray, List.set_cons_zero, List.set_cons_succ]
                refine wpAnyH_take (i := 26) (v := .pointer (some ⟨gu, k * 3 + 1, none⟩)) rfl (by kernel_rfl) (by kernel_rfl) (by kernel_rfl) (fun _ _ _ h => h) (Or.inl ⟨by rfl, ?_⟩) hHeld ?_
                · intro w' hSw; subst hSw; go_simp <;> omega
                try simp only [Act.put, List.getElem_toArray, List.getElem_cons_succ, List.getElem_cons_zero, List.setIfInBounds_toArray, List.set_cons_zero, List.set_cons_succ]
                refine wpAnyH_take (i := 27) (v := .int .i64 (x.n)) rfl (by kernel_rfl) (by kernel_rfl) (by kernel_rfl) (fun _ _ _ h => h) (Or.inl ⟨by rfl, ?_⟩) hHeld ?_
                · intro w' hSw; subst hSw; have kx := x1; go_simp
                try simp only [Act.put, List.getElem_toArray, List.getElem_cons_succ, List.getElem_cons_zero, List.setIfInBounds_toArray, List.set_cons_zero, List.set_cons_succ]
                refine wpAnyH_take (i := 28) (v := .pointer (some ⟨q, 4, none⟩)) rfl (by kernel_rfl) (by kernel_rfl) (by kernel_rfl) (fun _ _ _ h => h) (Or.inl ⟨by rfl, ?_⟩) hHeld ?_
                · intro w' hSw; subst hSw; go_simp <;> omega
                try simp only [Act.put, List.getElem_toArray, List.getElem_cons_succ, List.getElem_cons_zero, List.setIfInBounds_toArray, List.set_cons_zero, List.set_cons_succ]
                refine wpAnyH_take (i := 29) (v := .int .i64 ((uniqL 0 (U.take k)))) rfl (by kernel_rfl) (by kernel_rfl) (by kernel_rfl) (fun _ _ _ h => h) (Or.inl ⟨by rfl, ?_⟩) hHeld ?_
                · intro w' hSw; subst hSw; have kx := q4; go_simp
                try simp only [Act.put, List.getElem_toArray, List.getElem_cons_succ, List.getElem_cons_zero, List.setIfInBounds_toArray, List.set_cons_zero, List.set_cons_succ]
                refine wpAnyH_take (i := 30) (v := .bool true) rfl (by kernel_rfl) (by kernel_rfl) (by kernel_rfl) (fun _ _ _ h => h) (Or.inl ⟨by rfl, ?_⟩) hHeld ?_
                · intro w' hSw; subst hSw; go_simp <;> omega
                try simp only [Act.put, List.getElem_toArray, List.getElem_cons_succ, List.getElem_cons_zero, List.setIfInBounds_toArray, List.set_cons_zero, List.set_cons_succ]
                refine wpAnyH_take (i := 31) (v := .bool true) rfl (by kernel_rfl) (by kernel_rfl) (by kernel_rfl) (fun _ _ _ h => h) (Or.inl ⟨by rfl, ?_⟩) hHeld ?_
                · intro w' hSw; subst hSw; go_simp <;> omega
                try simp only [Act.put, List.getElem_toArray, List.getElem_cons_succ, List.getElem_cons_zero, List.setIfInBounds_toArray, List.set_cons_zero, List.set_cons_succ]
                refine wpAnyH_done (by kernel_rfl) ?_ _
                clear hHeld
                go_wp2_with fail
                go_roundw
                case rel => exact ⟨k + 1, by omega, by go_num, HB.out.drew.setCell (p := ⟨q, 4, none⟩) (by show w.heap.size ≤ q; omega) _, by
                  have := Blk.set (w := wo.drew) Hq.out 4 (.int .i64 x.n)
                  rw [Hst.out, if_pos ⟨hk, by omega, by omega⟩, if_pos hgt]
                  exact this, Blk.other (w := wo.drew) Hz.out (p := ⟨q, 4, none⟩) (by show w.heap.size ≠ q; omega) _, Own.setOther (w := wo.drew) (Own.same HU.out (fun _ _ => rfl)) (p := ⟨q, 4, none⟩) (by intro e; have := (Own.lt HU.out q e).1; omega) _⟩
                case measure => simp [intOf]; omega
              ·
                refine wp_region_held_drew (S := fun w' => w' = wo.drew) (by kernel_rfl) rfl (fun hHeld => ?_)
                refine wpAnyH_take (i := 0) (v := .slice (some ⟨gu, 0, none⟩) U.length cu) rfl (by kernel_rfl) (by kernel_rfl) (by kernel_rfl) (fun _ _ _ h => h) (Or.inl ⟨by rfl, ?_⟩) hHeld ?_
                · intro w' hSw; subst hSw; go_simp <;> omega
                try simp only [Act.put, List.getElem_toArray, List.getElem_cons_succ, List.getElem_cons_zero, List.setIfInBounds_toArray, List.set_cons_zero, List.set_cons_succ]
                refine wpAnyH_take (i := 1) (v := .int .i64 ((k : Int))) rfl (by kernel_rfl) (by kernel_rfl) (by kernel_rfl) (fun _ _ _ h => h) (Or.inl ⟨by rfl, ?_⟩) hHeld ?_
                · intro w' hSw; subst hSw; go_simp <;> omega
                try simp only [Act.put, List.getElem_toArray, List.getElem_cons_succ, List.getElem_cons_zero, List.setIfInBounds_toArray, List.set_cons_zero, List.set_cons_succ]
                refine wpAnyH_take (i := 2) (v := .pointer (some ⟨gu, k * 3, none⟩)) rfl (by kernel_rfl) (by kernel_rfl) (by kernel_rfl) (fun _ _ _ h => h) (Or.inl ⟨by rfl, ?_⟩) hHeld ?_
                · intro w' hSw; subst hSw; go_simp <;> omega
                try simp only [Act.put, List.getElem_toArray, List.getElem_cons_succ, List.getElem_cons_zero, List.setIfInBounds_toArray, List.set_cons_zero, List.set_cons_succ]
                refine wpAnyH_take (i := 3) (v := .pointer (some ⟨gu, k * 3, none⟩)) rfl (by kernel_rfl) (by kernel_rfl) (by kernel_rfl) (fun _ _ _ h => h) (Or.inl ⟨by rfl, ?_⟩) hHeld ?_
                · intro w' hSw; subst hSw; go_simp <;> omega
                try simp only [Act.put, List.getElem_toArray, List.getElem_cons_succ, List.getElem_cons_zero, List.setIfInBounds_toArray, List.set_cons_zero, List.set_cons_succ]
                refine wpAnyH_take (i := 4) (v := .int .i64 (x.kind)) rfl (by kernel_rfl) (by kernel_rfl) (by kernel_rfl) (fun _ _ _ h => h) (Or.inl ⟨by rfl, ?_⟩) hHeld ?_
                · intro w' hSw; subst hSw; have kx := x0; go_simp
                try simp only [Act.put, List.getElem_toArray, List.getElem_cons_succ, List.getElem_cons_zero, List.setIfInBounds_toArray, List.set_cons_zero, List.set_cons_succ]
                refine wpAnyH_take (i := 5) (v := .bool true) rfl (by kernel_rfl) (by kernel_rfl) (by kernel_rfl) (fun _ _ _ h => h) (Or.inl ⟨by rfl, ?_⟩) hHeld ?_
                · intro w' hSw; subst hSw; go_simp <;> omega
                try simp only [Act.put, List.getElem_toArray, List.getElem_cons_succ, List.getElem_cons_zero, List.setIfInBounds_toArray, List.set_cons_zero, List.set_cons_succ]
                refine wpAnyH_take (i := 6) (v := .bool true) rfl (by kernel_rfl) (by kernel_rfl) (by kernel_rfl) (fun _ _ _ h => h) (Or.inl ⟨by rfl, ?_⟩) hHeld ?_
                · intro w' hSw; subst hSw; go_simp <;> omega
                try simp only [Act.put, List.getElem_toArray, List.getElem_cons_succ, List.getElem_cons_zero, List.setIfInBounds_toArray, List.set_cons_zero, List.set_cons_succ]
                refine wpAnyH_take (i := 7) (v := .slice (some ⟨gu, 0, none⟩) U.length cu) rfl (by kernel_rfl) (by kernel_rfl) (by kernel_rfl) (fun _ _ _ h => h) (Or.inl ⟨by rfl, ?_⟩) hHeld ?_
                · intro w' hSw; subst hSw; go_simp <;> omega
                try simp only [Act.put, List.getElem_toArray, List.getElem_cons_succ, List.getElem_cons_zero, List.setIfInBounds_toArray, List.set_cons_zero, List.set_cons_succ]
                refine wpAnyH_take (i := 8) (v := .int .i64 ((k : Int))) rfl (by kernel_rfl) (by kernel_rfl) (by kernel_rfl) (fun _ _ _ h => h) (Or.inl ⟨by rfl, ?_⟩) hHeld ?_
                · intro w' hSw; subst hSw; go_simp <;> omega
                try simp only [Act.put, List.getElem_toArray, List.getElem_cons_succ, List.getElem_cons_zero, List.setIfInBounds_toArray, List.set_cons_zero, List.set_cons_succ]
                refine wpAnyH_take (i := 9) (v := .pointer (some ⟨gu, k * 3, none⟩)) rfl (by kernel_rfl) (by kernel_rfl) (by kernel_rfl) (fun _ _ _ h => h) (Or.inl ⟨by rfl, ?_⟩) hHeld ?_
                · intro w' hSw; subst hSw; go_simp <;> omega
                try simp only [Act.put, List.getElem_toArray, List.getElem_cons_succ, List.getElem_cons_zero, List.setIfInBounds_toArray, List.set_cons_zero, List.set_cons_succ]
                refine wpAnyH_take (i := 10) (v := .pointer (some ⟨gu, k * 3 + 1, none⟩)) rfl (by kernel_rfl) (by kernel_rfl) (by kernel_rfl) (fun _ _ _ h => h) (Or.inl ⟨by rfl, ?_⟩) hHeld ?_
                · intro w' hSw; subst hSw; go_simp <;> omega
                try simp only [Act.put, List.getElem_toArray, List.getElem_cons_succ, List.getElem_cons_zero, List.setIfInBounds_toArray, List.set_cons_zero, List.set_cons_succ]
                refine wpAnyH_take (i := 11) (v := .int .i64 (x.n)) rfl (by kernel_rfl) (by kernel_rfl) (by kernel_rfl) (fun _ _ _ h => h) (Or.inl ⟨by rfl, ?_⟩) hHeld ?_
                · intro w' hSw; subst hSw; have kx := x1; go_simp
                try simp only [Act.put, List.getElem_toArray, List.getElem_cons_succ, List.getElem_cons_zero, List.setIfInBounds_toArray, List.set_cons_zero, List.set_cons_succ]
                refine wpAnyH_take (i := 12) (v := .bool true) rfl (by kernel_rfl) (by kernel_rfl) (by kernel_rfl) (fun _ _ _ h => h) (Or.inl ⟨by rfl, ?_⟩) hHeld ?_
                · intro w' hSw; subst hSw; go_simp <;> omega
                try simp only [Act.put, List.getElem_toArray, List.getElem_cons_succ, List.getElem_cons_zero, List.setIfInBounds_toArray, List.set_cons_zero, List.set_cons_succ]
                refine wpAnyH_take (i := 13) (v := .bool true) rfl (by kernel_rfl) (by kernel_rfl) (by kernel_rfl) (fun _ _ _ h => h) (Or.inl ⟨by rfl, ?_⟩) hHeld ?_
                · intro w' hSw; subst hSw; go_simp <;> omega
                try simp only [Act.put, List.getElem_toArray, List.getElem_cons_succ, List.getElem_cons_zero, List.setIfInBounds_toArray, List.set_cons_zero, List.set_cons_succ]
                refine wpAnyH_take (i := 14) (v := .bool true) rfl (by kernel_rfl) (by kernel_rfl) (by kernel_rfl) (fun _ _ _ h => h) (Or.inl ⟨by rfl, ?_⟩) hHeld ?_
                · intro w' hSw; subst hSw; go_simp <;> omega
                try simp only [Act.put, List.getElem_toArray, List.getElem_cons_succ, List.getElem_cons_zero, List.setIfInBounds_toArray, List.set_cons_zero, List.set_cons_succ]
                refine wpAnyH_take (i := 15) (v := .slice (some ⟨gu, 0, none⟩) U.length cu) rfl (by kernel_rfl) (by kernel_rfl) (by kernel_rfl) (fun _ _ _ h => h) (Or.inl ⟨by rfl, ?_⟩) hHeld ?_
                · intro w' hSw; subst hSw; go_simp <;> omega
                try simp only [Act.put, List.getElem_toArray, List.getElem_cons_succ, List.getElem_cons_zero, List.setIfInBounds_toArray, List.set_cons_zero, List.set_cons_succ]
                refine wpAnyH_take (i := 16) (v := .int .i64 ((k : Int))) rfl (by kernel_rfl) (by kernel_rfl) (by kernel_rfl) (fun _ _ _ h => h) (Or.inl ⟨by rfl, ?_⟩) hHeld ?_
                · intro w' hSw; subst hSw; go_simp <;> omega
                try simp only [Act.put, List.getElem_toArray, List.getElem_cons_succ, List.getElem_cons_zero, List.setIfInBounds_toArray, List.set_cons_zero, List.set_cons_succ]
                refine wpAnyH_take (i := 17) (v := .pointer (some ⟨gu, k * 3, none⟩)) rfl (by kernel_rfl) (by kernel_rfl) (by kernel_rfl) (fun _ _ _ h => h) (Or.inl ⟨by rfl, ?_⟩) hHeld ?_
                · intro w' hSw; subst hSw; go_simp <;> omega
                try simp only [Act.put, List.getElem_toArray, List.getElem_cons_succ, List.getElem_cons_zero, List.setIfInBounds_toArray, List.set_cons_zero, List.set_cons_succ]
                refine wpAnyH_take (i := 18) (v := .pointer (some ⟨gu, k * 3 + 1, none⟩)) rfl (by kernel_rfl) (by kernel_rfl) (by kernel_rfl) (fun _ _ _ h => h) (Or.inl ⟨by rfl, ?_⟩) hHeld ?_
                · intro w' hSw; subst hSw; go_simp <;> omega
                try simp only [Act.put, List.getElem_toArray, List.getElem_cons_succ, List.getElem_cons_zero, List.setIfInBounds_toArray, List.set_cons_zero, List.set_cons_succ]
                refine wpAnyH_take (i := 19) (v := .int .i64 (x.n)) rfl (by kernel_rfl) (by kernel_rfl) (by kernel_rfl) (fun _ _ _ h => h) (Or.inl ⟨by rfl, ?_⟩) hHeld ?_
                · intro w' hSw; subst hSw; have kx := x1; go_simp
                try simp only [Act.put, List.getElem_toArray, List.getElem_cons_succ, List.getElem_cons_zero, List.setIfInBounds_toArray, List.set_cons_zero, List.set_cons_succ]
                refine wpAnyH_take (i := 20) (v := .bool true) rfl (by kernel_rfl) (by kernel_rfl) (by kernel_rfl) (fun _ _ _ h => h) (Or.inl ⟨by rfl, ?_⟩) hHeld ?_
                · intro w' hSw; subst hSw; go_simp <;> omega
                try simp only [Act.put, List.getElem_toArray, List.getElem_cons_succ, List.getElem_cons_zero, List.setIfInBounds_toArray, List.set_cons_zero, List.set_cons_succ]
                refine wpAnyH_take (i := 21) (v := .bool true) rfl (by kernel_rfl) (by kernel_rfl) (by kernel_rfl) (fun _ _ _ h => h) (Or.inl ⟨by rfl, ?_⟩) hHeld ?_
                · intro w' hSw; subst hSw; go_simp <;> omega
                try simp only [Act.put, List.getElem_toArray, List.getElem_cons_succ, List.getElem_cons_zero, List.setIfInBounds_toArray, List.set_cons_zero, List.set_cons_succ]
                refine wpAnyH_take (i := 22) (v := .bool true) rfl (by kernel_rfl) (by kernel_rfl) (by kernel_rfl) (fun _ _ _ h => h) (Or.inl ⟨by rfl, ?_⟩) hHeld ?_
                · intro w' hSw; subst hSw; go_simp <;> omega
                try simp only [Act.put, List.getElem_toArray, List.getElem_cons_succ, List.getElem_cons_zero, List.setIfInBounds_toArray, List.set_cons_zero, List.set_cons_succ]
                refine wpAnyH_take (i := 23) (v := .slice (some ⟨gu, 0, none⟩) U.length cu) rfl (by kernel_rfl) (by kernel_rfl) (by kernel_rfl) (fun _ _ _ h => h) (Or.inl ⟨by rfl, ?_⟩) hHeld ?_
                · intro w' hSw; subst hSw; go_simp <;> omega
                try simp only [Act.put, List.getElem_toArray, List.getElem_cons_succ, List.getElem_cons_zero, List.setIfInBounds_toArray, List.set_cons_zero, List.set_cons_succ]
                refine wpAnyH_take (i := 24) (v := .int .i64 ((k : Int))) rfl (by kernel_rfl) (by kernel_rfl) (by kernel_rfl) (fun _ _ _ h => h) (Or.inl ⟨by rfl, ?_⟩) hHeld ?_
                · intro w' hSw; subst hSw; go_simp <;> omega
                try simp only [Act.put, List.getElem_toArray, List.getElem_cons_succ, List.getElem_cons_zero, List.setIfInBounds_toArray, List.set_cons_zero, List.set_cons_succ]
                refine wpAnyH_take (i := 25) (v := .pointer (some ⟨gu, k * 3, none⟩)) rfl (by kernel_rfl) (by kernel_rfl) (by kernel_rfl) (fun _ _ _ h => h) (Or.inl ⟨by rfl, ?_⟩) hHeld ?_
                · intro w' hSw; subst hSw; go_simp <;> omega
                try simp only [Act.put, List.getElem_toArray, List.getElem_cons_succ, List.getElem_cons_zero, List.setIfInBounds_toArray, List.set_cons_zero, List.set_cons_succ]
                refine wpAnyH_take (i := 26) (v := .pointer (some ⟨gu, k * 3 + 1, none⟩)) rfl (by kernel_rfl) (by kernel_rfl) (by kernel_rfl) (fun _ _ _ h => h) (Or.inl ⟨by rfl, ?_⟩) hHeld ?_
                · intro w' hSw; subst hSw; go_simp <;> omega
                try simp only [Act.put, List.getElem_toArray, List.getElem_cons_succ, List.getElem_cons_zero, List.setIfInBounds_toArray, List.set_cons_zero, List.set_cons_succ]
                refine wpAnyH_take (i := 27) (v := .int .i64 (x.n)) rfl (by kernel_rfl) (by kernel_rfl) (by kernel_rfl) (fun _ _ _ h => h) (Or.inl ⟨by rfl, ?_⟩) hHeld ?_
                · intro w' hSw; subst hSw; have kx := x1; go_simp
                try simp only [Act.put, List.getElem_toArray, List.getElem_cons_succ, List.getElem_cons_zero, List.setIfInBounds_toArray, List.set_cons_zero, List.set_cons_succ]
                refine wpAnyH_take (i := 28) (v := .pointer (some ⟨q, 4, none⟩)) rfl (by kernel_rfl) (by kernel_rfl) (by kernel_rfl) (fun _ _ _ h => h) (Or.inl ⟨by rfl, ?_⟩) hHeld ?_
                · intro w' hSw; subst hSw; go_simp <;> omega
                try simp only [Act.put, List.getElem_toArray, List.getElem_cons_succ, List.getElem_cons_zero, List.setIfInBounds_toArray, List.set_cons_zero, List.set_cons_succ]
                refine wpAnyH_take (i := 29) (v := .int .i64 ((uniqL 0 (U.take k)))) rfl (by kernel_rfl) (by kernel_rfl) (by kernel_rfl) (fun _ _ _ h => h) (Or.inl ⟨by rfl, ?_⟩) hHeld ?_
                · intro w' hSw; subst hSw; have kx := q4; go_simp
                try simp only [Act.put, List.getElem_toArray, List.getElem_cons_succ, List.getElem_cons_zero, List.setIfInBounds_toArray, List.set_cons_zero, List.set_cons_succ]
                refine wpAnyH_take (i := 30) (v := .bool false) rfl (by kernel_rfl) (by kernel_rfl) (by kernel_rfl) (fun _ _ _ h => h) (Or.inl ⟨by rfl, ?_⟩) hHeld ?_
                · intro w' hSw; subst hSw; go_simp <;> omega
                try simp only [Act.put, List.getElem_toArray, List.getElem_cons_succ, List.getElem_cons_zero, List.setIfInBounds_toArray, List.set_cons_zero, List.set_cons_succ]
                refine wpAnyH_take (i := 31) (v := .bool false) rfl (by kernel_rfl) (by kernel_rfl) (by kernel_rfl) (fun _ _ _ h => h) (Or.inl ⟨by rfl, ?_⟩) hHeld ?_
                · intro w' hSw; subst hSw; go_simp <;> omega
                try simp only [Act.put, List.getElem_toArray, List.getElem_cons_succ, List.getElem_cons_zero, List.setIfInBounds_toArray, List.set_cons_zero, List.set_cons_succ]
                refine wpAnyH_done (by kernel_rfl) ?_ _
                clear hHeld
                go_wp2_with fail
                go_roundw
                case rel => exact ⟨k + 1, by omega, by go_num, HB.out.drew, by
                  rw [Hst.out, if_pos ⟨hk, by omega, by omega⟩, if_neg (by omega)]
                  exact Hq.out, Hz.out, Own.same HU.out (fun _ _ => rfl)⟩
                case measure => simp [intOf]; omega
            ·
              refine wp_region_held_drew (S := fun w' => w' = wo.drew) (by kernel_rfl) rfl (fun hHeld => ?_)
              refine wpAnyH_take (i := 0) (v := .slice (some ⟨gu, 0, none⟩) U.length cu) rfl (by kernel_rfl) (by kernel_rfl) (by kernel_rfl) (fun _ _ _ h => h) (Or.inl ⟨by rfl, ?_⟩) hHeld ?_
              · intro w' hSw; subst hSw; go_simp <;> omega
              try simp only [Act.put, List.getElem_toArray, List.getElem_cons_succ, List.getElem_cons_zero, List.setIfInBounds_toArray, List.set_cons_zero, List.set_cons_succ]
              refine wpAnyH_take (i := 1) (v := .int .i64 ((k : Int))) rfl (by kernel_rfl) (by kernel_rfl) (by kernel_rfl) (fun _ _ _ h => h) (Or.inl ⟨by rfl, ?_⟩) hHeld ?_
              · intro w' hSw; subst hSw; go_simp <;> omega
              try simp only [Act.put, List.getElem_toArray, List.getElem_cons_succ, List.getElem_cons_zero, List.setIfInBounds_toArray, List.set_cons_zero, List.set_cons_succ]
              refine wpAnyH_take (i := 2) (v := .pointer (some ⟨gu, k * 3, none⟩)) rfl (by kernel_rfl) (by kernel_rfl) (by kernel_rfl) (fun _ _ _ h => h) (Or.inl ⟨by rfl, ?_⟩) hHeld ?_
              · intro w' hSw; subst hSw; go_simp <;> omega
              try simp only [Act.put, List.getElem_toArray, List.getElem_cons_succ, List.getElem_cons_zero, List.setIfInBounds_toArray, List.set_cons_zero, List.set_cons_succ]
              refine wpAnyH_take (i := 3) (v := .pointer (some ⟨gu, k * 3, none⟩)) rfl (by kernel_rfl) (by kernel_rfl) (by kernel_rfl) (fun _ _ _ h => h) (Or.inl ⟨by rfl, ?_⟩) hHeld ?_
              · intro w' hSw; subst hSw; go_simp <;> omega
              try simp only [Act.put, List.getElem_toArray, List.getElem_cons_succ, List.getElem_cons_zero, List.setIfInBounds_toArray, List.set_cons_zero, List.set_cons_succ]
              refine wpAnyH_take (i := 4) (v := .int .i64 (x.kind)) rfl (by kernel_rfl) (by kernel_rfl) (by kernel_rfl) (fun _ _ _ h => h) (Or.inl ⟨by rfl, ?_⟩) hHeld ?_
              · intro w' hSw; subst hSw; have kx := x0; go_simp
              try simp only [Act.put, List.getElem_toArray, List.getElem_cons_succ, List.getElem_cons_zero, List.setIfInBounds_toArray, List.set_cons_zero, List.set_cons_succ]
              refine wpAnyH_take (i := 5) (v := .bool true) rfl (by kernel_rfl) (by kernel_rfl) (by kernel_rfl) (fun _ _ _ h => h) (Or.inl ⟨by rfl, ?_⟩) hHeld ?_
              · intro w' hSw; subst hSw; go_simp <;> omega
              try simp only [Act.put, List.getElem_toArray, List.getElem_cons_succ, List.getElem_cons_zero, List.setIfInBounds_toArray, List.set_cons_zero, List.set_cons_succ]
              refine wpAnyH_take (i := 6) (v := .bool true) rfl (by kernel_rfl) (by kernel_rfl) (by kernel_rfl) (fun _ _ _ h => h) (Or.inl ⟨by rfl, ?_⟩) hHeld ?_
              · intro w' hSw; subst hSw; go_simp <;> omega
              try simp only [Act.put, List.getElem_toArray, List.getElem_cons_succ, List.getElem_cons_zero, List.setIfInBounds_toArray, List.set_cons_zero, List.set_cons_succ]
              refine wpAnyH_take (i := 7) (v := .slice (some ⟨gu, 0, none⟩) U.length cu) rfl (by kernel_rfl) (by kernel_rfl) (by kernel_rfl) (fun _ _ _ h => h) (Or.inl ⟨by rfl, ?_⟩) hHeld ?_
              · intro w' hSw; subst hSw; go_simp <;> omega
              try simp only [Act.put, List.getElem_toArray, List.getElem_cons_succ, List.getElem_cons_zero, List.setIfInBounds_toArray, List.set_cons_zero, List.set_cons_succ]
              refine wpAnyH_take (i := 8) (v := .int .i64 ((k : Int))) rfl (by kernel_rfl) (by kernel_rfl) (by kernel_rfl) (fun _ _ _ h => h) (Or.inl ⟨by rfl, ?_⟩) hHeld ?_
              · intro w' hSw; subst hSw; go_simp <;> omega
              try simp only [Act.put, List.getElem_toArray, List.getElem_cons_succ, List.getElem_cons_zero, List.setIfInBounds_toArray, List.set_cons_zero, List.set_cons_succ]
              refine wpAnyH_take (i := 9) (v := .pointer (some ⟨gu, k * 3, none⟩)) rfl (by kernel_rfl) (by kernel_rfl) (by kernel_rfl) (fun _ _ _ h => h) (Or.inl ⟨by rfl, ?_⟩) hHeld ?_
              · intro w' hSw; subst hSw; go_simp <;> omega
              try simp only [Act.put, List.getElem_toArray, List.getElem_cons_succ, List.getElem_cons_zero, List.setIfInBounds_toArray, List.set_cons_zero, List.set_cons_succ]
              refine wpAnyH_take (i := 10) (v := .pointer (some ⟨gu, k * 3 + 1, none⟩)) rfl (by kernel_rfl) (by kernel_rfl) (by kernel_rfl) (fun _ _ _ h => h) (Or.inl ⟨by rfl, ?_⟩) hHeld ?_
              · intro w' hSw; subst hSw; go_simp <;> omega
              try simp only [Act.put, List.getElem_toArray, List.getElem_cons_succ, List.getElem_cons_zero, List.setIfInBounds_toArray, List.set_cons_zero, List.set_cons_succ]
              refine wpAnyH_take (i := 11) (v := .int .i64 (x.n)) rfl (by kernel_rfl) (by kernel_rfl) (by kernel_rfl) (fun _ _ _ h => h) (Or.inl ⟨by rfl, ?_⟩) hHeld ?_
              · intro w' hSw; subst hSw; have kx := x1; go_simp
              try simp only [Act.put, List.getElem_toArray, List.getElem_cons_succ, List.getElem_cons_zero, List.setIfInBounds_toArray, List.set_cons_zero, List.set_cons_succ]
              refine wpAnyH_take (i := 12) (v := .bool true) rfl (by kernel_rfl) (by kernel_rfl) (by kernel_rfl) (fun _ _ _ h => h) (Or.inl ⟨by rfl, ?_⟩) hHeld ?_
              · intro w' hSw; subst hSw; go_simp <;> omega
              try simp only [Act.put, List.getElem_toArray, List.getElem_cons_succ, List.getElem_cons_zero, List.setIfInBounds_toArray, List.set_cons_zero, List.set_cons_succ]
              refine wpAnyH_take (i := 13) (v := .bool true) rfl (by kernel_rfl) (by kernel_rfl) (by kernel_rfl) (fun _ _ _ h => h) (Or.inl ⟨by rfl, ?_⟩) hHeld ?_
              · intro w' hSw; subst hSw; go_simp <;> omega
              try simp only [Act.put, List.getElem_toArray, List.getElem_cons_succ, List.getElem_cons_zero, List.setIfInBounds_toArray, List.set_cons_zero, List.set_cons_succ]
              refine wpAnyH_take (i := 14) (v := .bool true) rfl (by kernel_rfl) (by kernel_rfl) (by kernel_rfl) (fun _ _ _ h => h) (Or.inl ⟨by rfl, ?_⟩) hHeld ?_
              · intro w' hSw; subst hSw; go_simp <;> omega
              try simp only [Act.put, List.getElem_toArray, List.getElem_cons_succ, List.getElem_cons_zero, List.setIfInBounds_toArray, List.set_cons_zero, List.set_cons_succ]
              refine wpAnyH_take (i := 15) (v := .slice (some ⟨gu, 0, none⟩) U.length cu) rfl (by kernel_rfl) (by kernel_rfl) (by kernel_rfl) (fun _ _ _ h => h) (Or.inl ⟨by rfl, ?_⟩) hHeld ?_
              · intro w' hSw; subst hSw; go_simp <;> omega
              try simp only [Act.put, List.getElem_toArray, List.getElem_cons_succ, List.getElem_cons_zero, List.setIfInBounds_toArray, List.set_cons_zero, List.set_cons_succ]
              refine wpAnyH_take (i := 16) (v := .int .i64 ((k : Int))) rfl (by kernel_rfl) (by kernel_rfl) (by kernel_rfl) (fun _ _ _ h => h) (Or.inl ⟨by rfl, ?_⟩) hHeld ?_
              · intro w' hSw; subst hSw; go_simp <;> omega
              try simp only [Act.put, List.getElem_toArray, List.getElem_cons_succ, List.getElem_cons_zero, List.setIfInBounds_toArray, List.set_cons_zero, List.set_cons_succ]
              refine wpAnyH_take (i := 17) (v := .pointer (some ⟨gu, k * 3, none⟩)) rfl (by kernel_rfl) (by kernel_rfl) (by kernel_rfl) (fun _ _ _ h => h) (Or.inl ⟨by rfl, ?_⟩) hHeld ?_
              · intro w' hSw; subst hSw; go_simp <;> omega
              try simp only [Act.put, List.getElem_toArray, List.getElem_cons_succ, List.getElem_cons_zero, List.setIfInBounds_toArray, List.set_cons_zero, List.set_cons_succ]
              refine wpAnyH_take (i := 18) (v := .pointer (some ⟨gu, k * 3 + 1, none⟩)) rfl (by kernel_rfl) (by kernel_rfl) (by kernel_rfl) (fun _ _ _ h => h) (Or.inl ⟨by rfl, ?_⟩) hHeld ?_
              · intro w' hSw; subst hSw; go_simp <;> omega
              try simp only [Act.put, List.getElem_toArray, List.getElem_cons_succ, List.getElem_cons_zero, List.setIfInBounds_toArray, List.set_cons_zero, List.set_cons_succ]
              refine wpAnyH_take (i := 19) (v := .int .i64 (x.n)) rfl (by kernel_rfl) (by kernel_rfl) (by kernel_rfl) (fun _ _ _ h => h) (Or.inl ⟨by rfl, ?_⟩) hHeld ?_
              · intro w' hSw; subst hSw; have kx := x1; go_simp
              try simp only [Act.put, List.getElem_toArray, List.getElem_cons_succ, List.getElem_cons_zero, List.setIfInBounds_toArray, List.set_cons_zero, List.set_cons_succ]
              refine wpAnyH_take (i := 20) (v := .bool false) rfl (by kernel_rfl) (by kernel_rfl) (by kernel_rfl) (fun _ _ _ h => h) (Or.inl ⟨by rfl, ?_⟩) hHeld ?_
              · intro w' hSw; subst hSw; go_simp <;> omega
              try simp only [Act.put, List.getElem_toArray, List.getElem_cons_succ, List.getElem_cons_zero, List.setIfInBounds_toArray, List.set_cons_zero, List.set_cons_succ]
              refine wpAnyH_take (i := 21) (v := .bool false) rfl (by kernel_rfl) (by kernel_rfl) (by kernel_rfl) (fun _ _ _ h => h) (Or.inl ⟨by rfl, ?_⟩) hHeld ?_
              · intro w' hSw; subst hSw; go_simp <;> omega
              try simp only [Act.put, List.getElem_toArray, List.getElem_cons_succ, List.getElem_cons_zero, List.setIfInBounds_toArray, List.set_cons_zero, List.set_cons_succ]
              refine wpAnyH_take (i := 22) (v := .bool false) rfl (by kernel_rfl) (by kernel_rfl) (by kernel_rfl) (fun _ _ _ h => h) (Or.inl ⟨by rfl, ?_⟩) hHeld ?_
              · intro w' hSw; subst hSw; go_simp <;> omega
              try simp only [Act.put, List.getElem_toArray, List.getElem_cons_succ, List.getElem_cons_zero, List.setIfInBounds_toArray, List.set_cons_zero, List.set_cons_succ]
              refine wpAnyH_take (i := 23) (v := undef) rfl (by kernel_rfl) (by kernel_rfl) (by kernel_rfl) (fun _ _ _ h => h) (Or.inr ⟨by kernel_rfl, rfl⟩) hHeld ?_
              try simp only [Act.put, List.getElem_toArray, List.getElem_cons_succ, List.getElem_cons_zero, List.setIfInBounds_toArray, List.set_cons_zero, List.set_cons_succ]
              refine wpAnyH_take (i := 24) (v := undef) rfl (by kernel_rfl) (by kernel_rfl) (by kernel_rfl) (fun _ _ _ h => h) (Or.inr ⟨by kernel_rfl, rfl⟩) hHeld ?_
              try simp only [Act.put, List.getElem_toArray, List.getElem_cons_succ, List.getElem_cons_zero, List.setIfInBounds_toArray, List.set_cons_zero, List.set_cons_succ]
              refine wpAnyH_take (i := 25) (v := undef) rfl (by kernel_rfl) (by kernel_rfl) (by kernel_rfl) (fun _ _ _ h => h) (Or.inr ⟨by kernel_rfl, rfl⟩) hHeld ?_
              try simp only [Act.put, List.getElem_toArray, List.getElem_cons_succ, List.getElem_cons_zero, List.setIfInBounds_toArray, List.set_cons_zero, List.set_cons_succ]
              refine wpAnyH_take (i := 26) (v := undef) rfl (by kernel_rfl) (by kernel_rfl) (by kernel_rfl) (fun _ _ _ h => h) (Or.inr ⟨by kernel_rfl, rfl⟩) hHeld ?_
              try simp only [Act.put, List.getElem_toArray, List.getElem_cons_succ, List.getElem_cons_zero, List.setIfInBounds_toArray, List.set_cons_zero, List.set_cons_succ]
              refine wpAnyH_take (i := 27) (v := undef) rfl (by kernel_rfl) (by kernel_rfl) (by kernel_rfl) (fun _ _ _ h => h) (Or.inr ⟨by kernel_rfl, rfl⟩) hHeld ?_
              try simp only [Act.put, List.getElem_toArray, List.getElem_cons_succ, List.getElem_cons_zero, List.setIfInBounds_toArray, List.set_cons_zero, List.set_cons_succ]
              refine wpAnyH_take (i := 28) (v := undef) rfl (by kernel_rfl) (by kernel_rfl) (by kernel_rfl) (fun _ _ _ h => h) (Or.inr ⟨by kernel_rfl, rfl⟩) hHeld ?_
              try simp only [Act.put, List.getElem_toArray, List.getElem_cons_succ, List.getElem_cons_zero, List.setIfInBounds_toArray, List.set_cons_zero, List.set_cons_succ]
              refine wpAnyH_take (i := 29) (v := undef) rfl (by kernel_rfl) (by kernel_rfl) (by kernel_rfl) (fun _ _ _ h => h) (Or.inr ⟨by kernel_rfl, rfl⟩) hHeld ?_
              try simp only [Act.put, List.getElem_toArray, List.getElem_cons_succ, List.getElem_cons_zero, List.setIfInBounds_toArray, List.set_cons_zero, List.set_cons_succ]
              refine wpAnyH_take (i := 30) (v := undef) rfl (by kernel_rfl) (by kernel_rfl) (by kernel_rfl) (fun _ _ _ h => h) (Or.inr ⟨by kernel_rfl, rfl⟩) hHeld ?_
              try simp only [Act.put, List.getElem_toArray, List.getElem_cons_succ, List.getElem_cons_zero, List.setIfInBounds_toArray, List.set_cons_zero, List.set_cons_succ]
              refine wpAnyH_take (i := 31) (v := .bool false) rfl (by kernel_rfl) (by kernel_rfl) (by kernel_rfl) (fun _ _ _ h => h) (Or.inl ⟨by rfl, ?_⟩) hHeld ?_
              · intro w' hSw; subst hSw; go_simp <;> omega
              try simp only [Act.put, List.getElem_toArray, List.getElem_cons_succ, List.getElem_cons_zero, List.setIfInBounds_toArray, List.set_cons_zero, List.set_cons_succ]
              refine wpAnyH_done (by kernel_rfl) ?_ _
              clear hHeld
              go_wp2_with fail
              go_roundw
              case rel => exact ⟨k + 1, by omega, by go_num, HB.out.drew, by
                rw [Hst.out, if_neg (fun h => by have := h.2.2; omega)]
                exact Hq.out, Hz.out, Own.same HU.out (fun _ _ => rfl)⟩
              case measure => simp [intOf]; omega
          ·
            refine wp_region_held_drew (S := fun w' => w' = wo.drew) (by kernel_rfl) rfl (fun hHeld => ?_)
            refine wpAnyH_take (i := 0) (v := .slice (some ⟨gu, 0, none⟩) U.length cu) rfl (by kernel_rfl) (by kernel_rfl) (by kernel_rfl) (fun _ _ _ h => h) (Or.inl ⟨by rfl, ?_⟩) hHeld ?_
            · intro w' hSw; subst hSw; go_simp <;> omega
            try simp only [Act.put, List.getElem_toArray, List.getElem_cons_succ, List.getElem_cons_zero, List.setIfInBounds_toArray, List.set_cons_zero, List.set_cons_succ]
            refine wpAnyH_take (i := 1) (v := .int .i64 ((k : Int))) rfl (by kernel_rfl) (by kernel_rfl) (by kernel_rfl) (fun _ _ _ h => h) (Or.inl ⟨by rfl, ?_⟩) hHeld ?_
            · intro w' hSw; subst hSw; go_simp <;> omega
            try simp only [Act.put, List.getElem_toArray, List.getElem_cons_succ, List.getElem_cons_zero, List.setIfInBounds_toArray, List.set_cons_zero, List.set_cons_succ]
            refine wpAnyH_take (i := 2) (v := .pointer (some ⟨gu, k * 3, none⟩)) rfl (by kernel_rfl) (by kernel_rfl) (by kernel_rfl) (fun _ _ _ h => h) (Or.inl ⟨by rfl, ?_⟩) hHeld ?_
            · intro w' hSw; subst hSw; go_simp <;> omega
            try simp only [Act.put, List.getElem_toArray, List.getElem_cons_succ, List.getElem_cons_zero, List.setIfInBounds_toArray, List.set_cons_zero, List.set_cons_succ]
            refine wpAnyH_take (i := 3) (v := .pointer (some ⟨gu, k * 3, none⟩)) rfl (by kernel_rfl) (by kernel_rfl) (by kernel_rfl) (fun _ _ _ h => h) (Or.inl ⟨by rfl, ?_⟩) hHeld ?_
            · intro w' hSw; subst hSw; go_simp <;> omega
            try simp only [Act.put, List.getElem_toArray, List.getElem_cons_succ, List.getElem_cons_zero, List.setIfInBounds_toArray, List.set_cons_zero, List.set_cons_succ]
            refine wpAnyH_take (i := 4) (v := .int .i64 (x.kind)) rfl (by kernel_rfl) (by kernel_rfl) (by kernel_rfl) (fun _ _ _ h => h) (Or.inl ⟨by rfl, ?_⟩) hHeld ?_
            · intro w' hSw; subst hSw; have kx := x0; go_simp
            try simp only [Act.put, List.getElem_toArray, List.getElem_cons_succ, List.getElem_cons_zero, List.setIfInBounds_toArray, List.set_cons_zero, List.set_cons_succ]
            refine wpAnyH_take (i := 5) (v := .bool true) rfl (by kernel_rfl) (by kernel_rfl) (by kernel_rfl) (fun _ _ _ h => h) (Or.inl ⟨by rfl, ?_⟩) hHeld ?_
            · intro w' hSw; subst hSw; go_simp <;> omega
            try simp only [Act.put, List.getElem_toArray, List.getElem_cons_succ, List.getElem_cons_zero, List.setIfInBounds_toArray, List.set_cons_zero, List.set_cons_succ]
            refine wpAnyH_take (i := 6) (v := .bool true) rfl (by kernel_rfl) (by kernel_rfl) (by kernel_rfl) (fun _ _ _ h => h) (Or.inl ⟨by rfl, ?_⟩) hHeld ?_
            · intro w' hSw; subst hSw; go_simp <;> omega
            try simp only [Act.put, List.getElem_toArray, List.getElem_cons_succ, List.getElem_cons_zero, List.setIfInBounds_toArray, List.set_cons_zero, List.set_cons_succ]
            refine wpAnyH_take (i := 7) (v := .slice (some ⟨gu, 0, none⟩) U.length cu) rfl (by kernel_rfl) (by kernel_rfl) (by kernel_rfl) (fun _ _ _ h => h) (Or.inl ⟨by rfl, ?_⟩) hHeld ?_
            · intro w' hSw; subst hSw; go_simp <;> omega
            try simp only [Act.put, List.getElem_toArray, List.getElem_cons_succ, List.getElem_cons_zero, List.setIfInBounds_toArray, List.set_cons_zero, List.set_cons_succ]
            refine wpAnyH_take (i := 8) (v := .int .i64 ((k : Int))) rfl (by kernel_rfl) (by kernel_rfl) (by kernel_rfl) (fun _ _ _ h => h) (Or.inl ⟨by rfl, ?_⟩) hHeld ?_
            · intro w' hSw; subst hSw; go_simp <;> omega
            try simp only [Act.put, List.getElem_toArray, List.getElem_cons_succ, List.getElem_cons_zero, List.setIfInBounds_toArray, List.set_cons_zero, List.set_cons_succ]
            refine wpAnyH_take (i := 9) (v := .pointer (some ⟨gu, k * 3, none⟩)) rfl (by kernel_rfl) (by kernel_rfl) (by kernel_rfl) (fun _ _ _ h => h) (Or.inl ⟨by rfl, ?_⟩) hHeld ?_
            · intro w' hSw; subst hSw; go_simp <;> omega
            try simp only [Act.put, List.getElem_toArray, List.getElem_cons_succ, List.getElem_cons_zero, List.setIfInBounds_toArray, List.set_cons_zero, List.set_cons_succ]
            refine wpAnyH_take (i := 10) (v := .pointer (some ⟨gu, k * 3 + 1, none⟩)) rfl (by kernel_rfl) (by kernel_rfl) (by kernel_rfl) (fun _ _ _ h => h) (Or.inl ⟨by rfl, ?_⟩) hHeld ?_
            · intro w' hSw; subst hSw; go_simp <;> omega
            try simp only [Act.put, List.getElem_toArray, List.getElem_cons_succ, List.getElem_cons_zero, List.setIfInBounds_toArray, List.set_cons_zero, List.set_cons_succ]
            refine wpAnyH_take (i := 11) (v := .int .i64 (x.n)) rfl (by kernel_rfl) (by kernel_rfl) (by kernel_rfl) (fun _ _ _ h => h) (Or.inl ⟨by rfl, ?_⟩) hHeld ?_
            · intro w' hSw; subst hSw; have kx := x1; go_simp
            try simp only [Act.put, List.getElem_toArray, List.getElem_cons_succ, List.getElem_cons_zero, List.setIfInBounds_toArray, List.set_cons_zero, List.set_cons_succ]
            refine wpAnyH_take (i := 12) (v := .bool false) rfl (by kernel_rfl) (by kernel_rfl) (by kernel_rfl) (fun _ _ _ h => h) (Or.inl ⟨by rfl, ?_⟩) hHeld ?_
            · intro w' hSw; subst hSw; go_simp <;> omega
            try simp only [Act.put, List.getElem_toArray, List.getElem_cons_succ, List.getElem_cons_zero, List.setIfInBounds_toArray, List.set_cons_zero, List.set_cons_succ]
            refine wpAnyH_take (i := 13) (v := .bool false) rfl (by kernel_rfl) (by kernel_rfl) (by kernel_rfl) (fun _ _ _ h => h) (Or.inl ⟨by rfl, ?_⟩) hHeld ?_
            · intro w' hSw; subst hSw; go_simp <;> omega
            try simp only [Act.put, List.getElem_toArray, List.getElem_cons_succ, List.getElem_cons_zero, List.setIfInBounds_toArray, List.set_cons_zero, List.set_cons_succ]
            refine wpAnyH_take (i := 14) (v := .bool false) rfl (by kernel_rfl) (by kernel_rfl) (by kernel_rfl) (fun _ _ _ h => h) (Or.inl ⟨by rfl, ?_⟩) hHeld ?_
            · intro w' hSw; subst hSw; go_simp <;> omega
            try simp only [Act.put, List.getElem_toArray, List.getElem_cons_succ, List.getElem_cons_zero, List.setIfInBounds_toArray, List.set_cons_zero, List.set_cons_succ]
            refine wpAnyH_take (i := 15) (v := undef) rfl (by kernel_rfl) (by kernel_rfl) (by kernel_rfl) (fun _ _ _ h => h) (Or.inr ⟨by kernel_rfl, rfl⟩) hHeld ?_
            try simp only [Act.put, List.getElem_toArray, List.getElem_cons_succ, List.getElem_cons_zero, List.setIfInBounds_toArray, List.set_cons_zero, List.set_cons_succ]
            refine wpAnyH_take (i := 16) (v := undef) rfl (by kernel_rfl) (by kernel_rfl) (by kernel_rfl) (fun _ _ _ h => h) (Or.inr ⟨by kernel_rfl, rfl⟩) hHeld ?_
            try simp only [Act.put, List.getElem_toArray, List.getElem_cons_succ, List.getElem_cons_zero, List.setIfInBounds_toArray, List.set_cons_zero, List.set_cons_succ]
            refine wpAnyH_take (i := 17) (v := undef) rfl (by kernel_rfl) (by kernel_rfl) (by kernel_rfl) (fun _ _ _ h => h) (Or.inr ⟨by kernel_rfl, rfl⟩) hHeld ?_
            try simp only [Act.put, List.getElem_toArray, List.getElem_cons_succ, List.getElem_cons_zero, List.setIfInBounds_toArray, List.set_cons_zero, List.set_cons_succ]
            refine wpAnyH_take (i := 18) (v := undef) rfl (by kernel_rfl) (by kernel_rfl) (by kernel_rfl) (fun _ _ _ h => h) (Or.inr ⟨by kernel_rfl, rfl⟩) hHeld ?_
            try simp only [Act.put, List.getElem_toArray, List.getElem_cons_succ, List.getElem_cons_zero, List.setIfInBounds_toArray, List.set_cons_zero, List.set_cons_succ]
            refine wpAnyH_take (i := 19) (v := undef) rfl (by kernel_rfl) (by kernel_rfl) (by kernel_rfl) (fun _ _ _ h => h) (Or.inr ⟨by kernel_rfl, rfl⟩) hHeld ?_
            try simp only [Act.put, List.getElem_toArray, List.getElem_cons_succ, List.getElem_cons_zero, List.setIfInBounds_toArray, List.set_cons_zero, List.set_cons_succ]
            refine wpAnyH_take (i := 20) (v := undef) rfl (by kernel_rfl) (by kernel_rfl) (by kernel_rfl) (fun _ _ _ h => h) (Or.inr ⟨by kernel_rfl, rfl⟩) hHeld ?_
            try simp only [Act.put, List.getElem_toArray, List.getElem_cons_succ, List.getElem_cons_zero, List.setIfInBounds_toArray, List.set_cons_zero, List.set_cons_succ]
            refine wpAnyH_take (i := 21) (v := .bool false) rfl (by kernel_rfl) (by kernel_rfl) (by kernel_rfl) (fun _ _ _ h => h) (Or.inl ⟨by rfl, ?_⟩) hHeld ?_
            · intro w' hSw; subst hSw; go_simp <;> omega
            try simp only [Act.put, List.getElem_toArray, List.getElem_cons_succ, List.getElem_cons_zero, List.setIfInBounds_toArray, List.set_cons_zero, List.set_cons_succ]
            refine wpAnyH_take (i := 22) (v := .bool false) rfl (by kernel_rfl) (by kernel_rfl) (by kernel_rfl) (fun _ _ _ h => h) (Or.inl ⟨by rfl, ?_⟩) hHeld ?_
            · intro w' hSw; subst hSw; go_simp <;> omega
            try simp only [Act.put, List.getElem_toArray, List.getElem_cons_succ, List.getElem_cons_zero, List.setIfInBounds_toArray, List.set_cons_zero, List.set_cons_succ]
            refine wpAnyH_take (i := 23) (v := undef) rfl (by kernel_rfl) (by kernel_rfl) (by kernel_rfl) (fun _ _ _ h => h) (Or.inr ⟨by kernel_rfl, rfl⟩) hHeld ?_
            try simp only [Act.put, List.getElem_toArray, List.getElem_cons_succ, List.getElem_cons_zero, List.setIfInBounds_toArray, List.set_cons_zero, List.set_cons_succ]
            refine wpAnyH_take (i := 24) (v := undef) rfl (by kernel_rfl) (by kernel_rfl) (by kernel_rfl) (fun _ _ _ h => h) (Or.inr ⟨by kernel_rfl, rfl⟩) hHeld ?_
            try simp only [Act.put, List.getElem_toArray, List.getElem_cons_succ, List.getElem_cons_zero, List.setIfInBounds_toArray, List.set_cons_zero, List.set_cons_succ]
            refine wpAnyH_take (i := 25) (v := undef) rfl (by kernel_rfl) (by kernel_rfl) (by kernel_rfl) (fun _ _ _ h => h) (Or.inr ⟨by kernel_rfl, rfl⟩) hHeld ?_
            try simp only [Act.put, List.getElem_toArray, List.getElem_cons_succ, List.getElem_cons_zero, List.setIfInBounds_toArray, List.set_cons_zero, List.set_cons_succ]
            refine wpAnyH_take (i := 26) (v := undef) rfl (by kernel_rfl) (by kernel_rfl) (by kernel_rfl) (fun _ _ _ h => h) (Or.inr ⟨by kernel_rfl, rfl⟩) hHeld ?_
            try simp only [Act.put, List.getElem_toArray, List.getElem_cons_succ, List.getElem_cons_zero, List.setIfInBounds_toArray, List.set_cons_zero, List.set_cons_succ]
            refine wpAnyH_take (i := 27) (v := undef) rfl (by kernel_rfl) (by kernel_rfl) (by kernel_rfl) (fun _ _ _ h => h) (Or.inr ⟨by kernel_rfl, rfl⟩) hHeld ?_
            try simp only [Act.put, List.getElem_toArray, List.getElem_cons_succ, List.getElem_cons_zero, List.setIfInBounds_toArray, List.set_cons_zero, List.set_cons_succ]
            refine wpAnyH_take (i := 28) (v := undef) rfl (by kernel_rfl) (by kernel_rfl) (by kernel_rfl) (fun _ _ _ h => h) (Or.inr ⟨by kernel_rfl, rfl⟩) hHeld ?_
            try simp only [Act.put, List.getElem_toArray, List.getElem_cons_succ, List.getElem_cons_zero, List.setIfInBounds_toArray, List.set_cons_zero, List.set_cons_succ]
            refine wpAnyH_take (i := 29) (v := undef) rfl (by kernel_rfl) (by kernel_rfl) (by kernel_rfl) (fun _ _ _ h => h) (Or.inr ⟨by kernel_rfl, rfl⟩) hHeld ?_
            try simp only [Act.put, List.getElem_toArray, List.getElem_cons_succ, List.getElem_cons_zero, List.setIfInBounds_toArray, List.set_cons_zero, List.set_cons_succ]
            refine wpAnyH_take (i := 30) (v := undef) rfl (by kernel_rfl) (by kernel_rfl) (by kernel_rfl) (fun _ _ _ h => h) (Or.inr ⟨by kernel_rfl, rfl⟩) hHeld ?_
            try simp only [Act.put, List.getElem_toArray, List.getElem_cons_succ, List.getElem_cons_zero, List.setIfInBounds_toArray, List.set_cons_zero, List.set_cons_succ]
            refine wpAnyH_take (i := 31) (v := .bool false) rfl (by kernel_rfl) (by kernel_rfl) (by kernel_rfl) (fun _ _ _ h => h) (Or.inl ⟨by rfl, ?_⟩) hHeld ?_
            · intro w' hSw; subst hSw; go_simp <;> omega
            try simp only [Act.put, List.getElem_toArray, List.getElem_cons_succ, List.getElem_cons_zero, List.setIfInBounds_toArray, List.set_cons_zero, List.set_cons_succ]
            refine wpAnyH_done (by kernel_rfl) ?_ _
            clear hHeld
            go_wp2_with fail
            go_roundw
            case rel => exact ⟨k + 1, by omega, by go_num, HB.out.drew, by
              rw [Hst.out, if_neg (fun h => by have := h.2.1; omega)]
              exact Hq.out, Hz.out, Own.same HU.out (fun _ _ => rfl)⟩
            case measure => simp [intOf]; omega
        ·
          have hk2 : (x.kind == 1) = false := by simpa using hk
          refine wp_region_held_drew (S := fun w' => w' = wo.drew) (by kernel_rfl) rfl (fun hHeld => ?_)
          refine wpAnyH_take (i := 0) (v := .slice (some ⟨gu, 0, none⟩) U.length cu) rfl (by kernel_rfl) (by kernel_rfl) (by kernel_rfl) (fun _ _ _ h => h) (Or.inl ⟨by rfl, ?_⟩) hHeld ?_
          · intro w' hSw; subst hSw; go_simp <;> omega
          try simp only [Act.put, List.getElem_toArray, List.getElem_cons_succ, List.getElem_cons_zero, List.setIfInBounds_toArray, List.set_cons_zero, List.set_cons_succ]
          refine wpAnyH_take (i := 1) (v := .int .i64 ((k : Int))) rfl (by kernel_rfl) (by kernel_rfl) (by kernel_rfl) (fun _ _ _ h => h) (Or.inl ⟨by rfl, ?_⟩) hHeld ?_
          · intro w' hSw; subst hSw; go_simp <;> omega
          try simp only [Act.put, List.getElem_toArray, List.getElem_cons_succ, List.getElem_cons_zero, List.setIfInBounds_toArray, List.set_cons_zero, List.set_cons_succ]
          refine wpAnyH_take (i := 2) (v := .pointer (some ⟨gu, k * 3, none⟩)) rfl (by kernel_rfl) (by kernel_rfl) (by kernel_rfl) (fun _ _ _ h => h) (Or.inl ⟨by rfl, ?_⟩) hHeld ?_
          · intro w' hSw; subst hSw; go_simp <;> omega
          try simp only [Act.put, List.getElem_toArray, List.getElem_cons_succ, List.getElem_cons_zero, List.setIfInBounds_toArray, List.set_cons_zero, List.set_cons_succ]
          refine wpAnyH_take (i := 3) (v := .pointer (some ⟨gu, k * 3, none⟩)) rfl (by kernel_rfl) (by kernel_rfl) (by kernel_rfl) (fun _ _ _ h => h) (Or.inl ⟨by rfl, ?_⟩) hHeld ?_
          · intro w' hSw; subst hSw; go_simp <;> omega
          try simp only [Act.put, List.getElem_toArray, List.getElem_cons_succ, List.getElem_cons_zero, List.setIfInBounds_toArray, List.set_cons_zero, List.set_cons_succ]
          refine wpAnyH_take (i := 4) (v := .int .i64 (x.kind)) rfl (by kernel_rfl) (by kernel_rfl) (by kernel_rfl) (fun _ _ _ h => h) (Or.inl ⟨by rfl, ?_⟩) hHeld ?_
          · intro w' hSw; subst hSw; have kx := x0; go_simp
          try simp only [Act.put, List.getElem_toArray, List.getElem_cons_succ, List.getElem_cons_zero, List.setIfInBounds_toArray, List.set_cons_zero, List.set_cons_succ]
          refine wpAnyH_take (i := 5) (v := .bool false) rfl (by kernel_rfl) (by kernel_rfl) (by kernel_rfl) (fun _ _ _ h => h) (Or.inl ⟨by rfl, ?_⟩) hHeld ?_
          · intro w' hSw; subst hSw; go_simp <;> omega
          try simp only [Act.put, List.getElem_toArray, List.getElem_cons_succ, List.getElem_cons_zero, List.setIfInBounds_toArray, List.set_cons_zero, List.set_cons_succ]
          refine wpAnyH_take (i := 6) (v := .bool false) rfl (by kernel_rfl) (by kernel_rfl) (by kernel_rfl) (fun _ _ _ h => h) (Or.inl ⟨by rfl, ?_⟩) hHeld ?_
          · intro w' hSw; subst hSw; go_simp <;> omega
          try simp only [Act.put, List.getElem_toArray, List.getElem_cons_succ, List.getElem_cons_zero, List.setIfInBounds_toArray, List.set_cons_zero, List.set_cons_succ]
          refine wpAnyH_take (i := 7) (v := undef) rfl (by kernel_rfl) (by kernel_rfl) (by kernel_rfl) (fun _ _ _ h => h) (Or.inr ⟨by kernel_rfl, rfl⟩) hHeld ?_
          try simp only [Act.put, List.getElem_toArray, List.getElem_cons_succ, List.getElem_cons_zero, List.setIfInBounds_toArray, List.set_cons_zero, List.set_cons_succ]
          refine wpAnyH_take (i := 8) (v := undef) rfl (by kernel_rfl) (by kernel_rfl) (by kernel_rfl) (fun _ _ _ h => h) (Or.inr ⟨by kernel_rfl, rfl⟩) hHeld ?_
          try simp only [Act.put, List.getElem_toArray, List.getElem_cons_succ, List.getElem_cons_zero, List.setIfInBounds_toArray, List.set_cons_zero, List.set_cons_succ]
          refine wpAnyH_take (i := 9) (v := undef) rfl (by kernel_rfl) (by kernel_rfl) (by kernel_rfl) (fun _ _ _ h => h) (Or.inr ⟨by kernel_rfl, rfl⟩) hHeld ?_
          try simp only [Act.put, List.getElem_toArray, List.getElem_cons_succ, List.getElem_cons_zero, List.setIfInBounds_toArray, List.set_cons_zero, List.set_cons_succ]
          refine wpAnyH_take (i := 10) (v := undef) rfl (by kernel_rfl) (by kernel_rfl) (by kernel_rfl) (fun _ _ _ h => h) (Or.inr ⟨by kernel_rfl, rfl⟩) hHeld ?_
          try simp only [Act.put, List.getElem_toArray, List.getElem_cons_succ, List.getElem_cons_zero, List.setIfInBounds_toArray, List.set_cons_zero, List.set_cons_succ]
          refine wpAnyH_take (i := 11) (v := undef) rfl (by kernel_rfl) (by kernel_rfl) (by kernel_rfl) (fun _ _ _ h => h) (Or.inr ⟨by kernel_rfl, rfl⟩) hHeld ?_
          try simp only [Act.put, List.getElem_toArray, List.getElem_cons_succ, List.getElem_cons_zero, List.setIfInBounds_toArray, List.set_cons_zero, List.set_cons_succ]
          refine wpAnyH_take (i := 12) (v := undef) rfl (by kernel_rfl) (by kernel_rfl) (by kernel_rfl) (fun _ _ _ h => h) (Or.inr ⟨by kernel_rfl, rfl⟩) hHeld ?_
          try simp only [Act.put, List.getElem_toArray, List.getElem_cons_succ, List.getElem_cons_zero, List.setIfInBounds_toArray, List.set_cons_zero, List.set_cons_succ]
          refine wpAnyH_take (i := 13) (v := .bool false) rfl (by kernel_rfl) (by kernel_rfl) (by kernel_rfl) (fun _ _ _ h => h) (Or.inl ⟨by rfl, ?_⟩) hHeld ?_
          · intro w' hSw; subst hSw; go_simp <;> omega
          try simp only [Act.put, List.getElem_toArray, List.getElem_cons_succ, List.getElem_cons_zero, List.setIfInBounds_toArray, List.set_cons_zero, List.set_cons_succ]
          refine wpAnyH_take (i := 14) (v := .bool false) rfl (by kernel_rfl) (by kernel_rfl) (by kernel_rfl) (fun _ _ _ h => h) (Or.inl ⟨by rfl, ?_⟩) hHeld ?_
          · intro w' hSw; subst hSw; go_simp <;> omega
          try simp only [Act.put, List.getElem_toArray, List.getElem_cons_succ, List.getElem_cons_zero, List.setIfInBounds_toArray, List.set_cons_zero, List.set_cons_succ]
          refine wpAnyH_take (i := 15) (v := undef) rfl (by kernel_rfl) (by kernel_rfl) (by kernel_rfl) (fun _ _ _ h => h) (Or.inr ⟨by kernel_rfl, rfl⟩) hHeld ?_
          try simp only [Act.put, List.getElem_toArray, List.getElem_cons_succ, List.getElem_cons_zero, List.setIfInBounds_toArray, List.set_cons_zero, List.set_cons_succ]
          refine wpAnyH_take (i := 16) (v := undef) rfl (by kernel_rfl) (by kernel_rfl) (by kernel_rfl) (fun _ _ _ h => h) (Or.inr ⟨by kernel_rfl, rfl⟩) hHeld ?_
          try simp only [Act.put, List.getElem_toArray, List.getElem_cons_succ, List.getElem_cons_zero, List.setIfInBounds_toArray, List.set_cons_zero, List.set_cons_succ]
          refine wpAnyH_take (i := 17) (v := undef) rfl (by kernel_rfl) (by kernel_rfl) (by kernel_rfl) (fun _ _ _ h => h) (Or.inr ⟨by kernel_rfl, rfl⟩) hHeld ?_
          try simp only [Act.put, List.getElem_toArray, List.getElem_cons_succ, List.getElem_cons_zero, List.setIfInBounds_toArray, List.set_cons_zero, List.set_cons_succ]
          refine wpAnyH_take (i := 18) (v := undef) rfl (by kernel_rfl) (by kernel_rfl) (by kernel_rfl) (fun _ _ _ h => h) (Or.inr ⟨by kernel_rfl, rfl⟩) hHeld ?_
          try simp only [Act.put, List.getElem_toArray, List.getElem_cons_succ, List.getElem_cons_zero, List.setIfInBounds_toArray, List.set_cons_zero, List.set_cons_succ]
          refine wpAnyH_take (i := 19) (v := undef) rfl (by kernel_rfl) (by kernel_rfl) (by kernel_rfl) (fun _ _ _ h => h) (Or.inr ⟨by kernel_rfl, rfl⟩) hHeld ?_
          try simp only [Act.put, List.getElem_toArray, List.getElem_cons_succ, List.getElem_cons_zero, List.setIfInBounds_toArray, List.set_cons_zero, List.set_cons_succ]
          refine wpAnyH_take (i := 20) (v := undef) rfl (by kernel_rfl) (by kernel_rfl) (by kernel_rfl) (fun _ _ _ h => h) (Or.inr ⟨by kernel_rfl, rfl⟩) hHeld ?_
          try simp only [Act.put, List.getElem_toArray, List.getElem_cons_succ, List.getElem_cons_zero, List.setIfInBounds_toArray, List.set_cons_zero, List.set_cons_succ]
          refine wpAnyH_take (i := 21) (v := .bool false) rfl (by kernel_rfl) (by kernel_rfl) (by kernel_rfl) (fun _ _ _ h => h) (Or.inl ⟨by rfl, ?_⟩) hHeld ?_
          · intro w' hSw; subst hSw; go_simp <;> omega
          try simp only [Act.put, List.getElem_toArray, List.getElem_cons_succ, List.getElem_cons_zero, List.setIfInBounds_toArray, List.set_cons_zero, List.set_cons_succ]
          refine wpAnyH_take (i := 22) (v := .bool false) rfl (by kernel_rfl) (by kernel_rfl) (by kernel_rfl) (fun _ _ _ h => h) (Or.inl ⟨by rfl, ?_⟩) hHeld ?_
          · intro w' hSw; subst hSw; go_simp <;> omega
          try simp only [Act.put, List.getElem_toArray, List.getElem_cons_succ, List.getElem_cons_zero, List.setIfInBounds_toArray, List.set_cons_zero, List.set_cons_succ]
          refine wpAnyH_take (i := 23) (v := undef) rfl (by kernel_rfl) (by kernel_rfl) (by kernel_rfl) (fun _ _ _ h => h) (Or.inr ⟨by kernel_rfl, rfl⟩) hHeld ?_
          try simp only [Act.put, List.getElem_toArray, List.getElem_cons_succ, List.getElem_cons_zero, List.setIfInBounds_toArray, List.set_cons_zero, List.set_cons_succ]
          refine wpAnyH_take (i := 24) (v := undef) rfl (by kernel_rfl) (by kernel_rfl) (by kernel_rfl) (fun _ _ _ h => h) (Or.inr ⟨by kernel_rfl, rfl⟩) hHeld ?_
          try simp only [Act.put, List.getElem_toArray, List.getElem_cons_succ, List.getElem_cons_zero, List.setIfInBounds_toArray, List.set_cons_zero, List.set_cons_succ]
          refine wpAnyH_take (i := 25) (v := undef) rfl (by kernel_rfl) (by kernel_rfl) (by kernel_rfl) (fun _ _ _ h => h) (Or.inr ⟨by kernel_rfl, rfl⟩) hHeld ?_
          try simp only [Act.put, List.getElem_toArray, List.getElem_cons_succ, List.getElem_cons_zero, List.setIfInBounds_toArray, List.set_cons_zero, List.set_cons_succ]
          refine wpAnyH_take (i := 26) (v := undef) rfl (by kernel_rfl) (by kernel_rfl) (by kernel_rfl) (fun _ _ _ h => h) (Or.inr ⟨by kernel_rfl, rfl⟩) hHeld ?_
          try simp only [Act.put, List.getElem_toArray, List.getElem_cons_succ, List.getElem_cons_zero, List.setIfInBounds_toArray, List.set_cons_zero, List.set_cons_succ]
          refine wpAnyH_take (i := 27) (v := undef) rfl (by kernel_rfl) (by kernel_rfl) (by kernel_rfl) (fun _ _ _ h => h) (Or.inr ⟨by kernel_rfl, rfl⟩) hHeld ?_
          try simp only [Act.put, List.getElem_toArray, List.getElem_cons_succ, List.getElem_cons_zero, List.setIfInBounds_toArray, List.set_cons_zero, List.set_cons_succ]
          refine wpAnyH_take (i := 28) (v := undef) rfl (by kernel_rfl) (by kernel_rfl) (by kernel_rfl) (fun _ _ _ h => h) (Or.inr ⟨by kernel_rfl, rfl⟩) hHeld ?_
          try simp only [Act.put, List.getElem_toArray, List.getElem_cons_succ, List.getElem_cons_zero, List.setIfInBounds_toArray, List.set_cons_zero, List.set_cons_succ]
          refine wpAnyH_take (i := 29) (v := undef) rfl (by kernel_rfl) (by kernel_rfl) (by kernel_rfl) (fun _ _ _ h => h) (Or.inr ⟨by kernel_rfl, rfl⟩) hHeld ?_
          try simp only [Act.put, List.getElem_toArray, List.getElem_cons_succ, List.getElem_cons_zero, List.setIfInBounds_toArray, List.set_cons_zero, List.set_cons_succ]
          refine wpAnyH_take (i := 30) (v := undef) rfl (by kernel_rfl) (by kernel_rfl) (by kernel_rfl) (fun _ _ _ h => h) (Or.inr ⟨by kernel_rfl, rfl⟩) hHeld ?_
          try simp only [Act.put, List.getElem_toArray, List.getElem_cons_succ, List.getElem_cons_zero, List.setIfInBounds_toArray, List.set_cons_zero, List.set_cons_succ]
          refine wpAnyH_take (i := 31) (v := .bool false) rfl (by kernel_rfl) (by kernel_rfl) (by kernel_rfl) (fun _ _ _ h => h) (Or.inl ⟨by rfl, ?_⟩) hHeld ?_
          · intro w' hSw; subst hSw; go_simp <;> omega
          try simp only [Act.put, List.getElem_toArray, List.getElem_cons_succ, List.getElem_cons_zero, List.setIfInBounds_toArray, List.set_cons_zero, List.set_cons_succ]
          refine wpAnyH_done (by kernel_rfl) ?_ _
          clear hHeld
          go_wp2_with fail
          go_roundw
          case rel => exact ⟨k + 1, by omega, by go_num, HB.out.drew, by
            rw [Hst.out, if_neg (fun h => hk h.1)]
            exact Hq.out, Hz.out, Own.same HU.out (fun _ _ => rfl)⟩
          case measure => simp [intOf]; omega
      · obtain rfl : k = U.length := by omega
        rw [List.take_length] at hq
        obtain ⟨a0, a1, a2, a3, a4, a5, a6⟩ := hq.cells.c7
        obtain ⟨z0, z1, z2, z3, z4, z5, z6⟩ := hz.cells.c7
        have f1 := hz.free
        have hr := HR.out (set7 wo w.heap.size (.int .i64 e) (.string ⟨nv.s.toArray⟩) (.int .i64 tv.n) (.bool (yesL (vals (ofE l e) 3))) (.int .i64 (uniqL 0 U)) (.bool (yesL (vals (ofE l e) 5))) (.bool (yesL (vals (ofE l e) 6)))) (below_set7 HB.out (Nat.le_refl _) _ _ _ _ _ _ _)
        rw [hsome.out] at hr
        have hrv := (Blk.set7 Hz.out (.int .i64 e) (.string ⟨nv.s.toArray⟩) (.int .i64 tv.n) (.bool (yesL (vals (ofE l e) 3))) (.int .i64 (uniqL 0 U)) (.bool (yesL (vals (ofE l e) 5))) (.bool (yesL (vals (ofE l e) 6)))).runAttr
        unfold set7 at hr hrv
        have Hr := Lib.hid hr
        have Hrv := Lib.hid hrv
        clear hr hrv hB hq hz hU9
        go_wp2_with fail
        exact ret_cell_tmp rfl rfl Hrv.out rfl rfl Hr.out
end Go.Proofs.Ytkcpanaojehgiaa
