/- What two sets share: the iterator meets. (Printed by spna.py.) -/
import Derived.Test.YtkcpanaojehgiaaSpnP
import Derived.Test.YtkcpanaojehgiaaSchE
namespace Go.Proofs.Ytkcpanaojehgiaa
open Go.RowKit Go.Shelf
set_option linter.unusedVariables false
set_option linter.unusedSimpArgs false
attribute [local go_sem] Oper.semAt_some

theorem size_Sp : ∀ w, (sizeOf (Try.prog.elem 43)).run Try.prog w = .ok 2 w := fun w => by kernel_rfl
set_option maxRecDepth 100000 in
set_option maxHeartbeats 16000000 in
theorem meets1_any (m lp ka kb lo hi : Nat) (A0 B0 : List Sp) (J : List Sp → List Sp → List Sp → World → Prop) (hlA : A0.length ≤ 1000000000000000) (hlB : B0.length ≤ 1000000000000000)
    (hc : ∀ A B e W, J A B e W → ∃ va vb, W.cell? ⟨ka, 0, none⟩ = some va ∧ W.frozen? ⟨ka, 0, none⟩ = false ∧ Spans lo hi W va A ∧ W.cell? ⟨kb, 0, none⟩ = some vb ∧ W.frozen? ⟨kb, 0, none⟩ = false ∧ Spans lo hi W vb B)
    (hgrow : ∀ A B e W W', J A B e W → Below W.heap.size W W' → J A B e W')
    (hY : ∀ A B e W s, J A B e W → e.length ≤ A0.length + B0.length → YieldAt Fence.wide m Try.prog lp #[.agg #[.int .i64 s.f, .int .i64 s.t]] W (fun x W' => x = .returned (.bool true) ∧ J A B (e ++ [s]) W'))
    (hstA : ∀ x A B e W v, J (x :: A) B e W → Spans lo hi W v A → J A B e (W.setCell ⟨ka, 0, none⟩ v))
    (hstB : ∀ A y B e W v, J A (y :: B) e W → Spans lo hi W v B → J A B e (W.setCell ⟨kb, 0, none⟩ v))
    (W0 : World) (hJ0 : J A0 B0 [] W0) :
    CallsIn Fence.wide (m + 1) Try.prog 91 #[.func (.yield lp) #[] #[], .pointer (some ⟨ka, 0, none⟩), .pointer (some ⟨kb, 0, none⟩)] W0 (fun e W' => (∃ v, e = .returned v) ∧ ∃ A B, J A B (sharedL A0 B0) W') := by
  have Hc := Lib.hid hc
  have Hgrow := Lib.hid hgrow
  have HY := Lib.hid hY
  have HstA := Lib.hid hstA
  have HstB := Lib.hid hstB
  clear hc hgrow hY hstA hstB
  refine callsIn_of_wp Try.func91 rfl trivial ?_ rfl
  simp only [Try.ntmps91, List.size_toArray, List.length_cons, Nat.reduceAdd, Nat.reduceSub, Array.replicate_succ, Array.replicate_zero, List.push_toArray, List.append_toArray, List.nil_append, List.cons_append, List.length_nil]
  refine wpIn_wide.2 (wp_scope_straight ((wpIn_wide (n := m + 1)).1 ?_))
  gi_wp2
  refine wpIn_label ?_
  gi_wp2_with fail
  gi_loopw [4] (fun _ wr => ∃ (A B e : List Sp), J A B e wr ∧ e.length + A.length + B.length ≤ A0.length + B0.length ∧ e ++ sharedL A B = sharedL A0 B0) (fun _ wr => sliceLen (wr.cell? ⟨ka, 0, none⟩) + sliceLen (wr.cell? ⟨kb, 0, none⟩))
  case atStart => exact ⟨A0, B0, [], hJ0, by simp, rfl⟩
  case round =>
    obtain ⟨A, B, e, hj, hle, heq⟩ := hrel
    obtain ⟨wo, ewo⟩ : ∃ x, x = wr := ⟨_, rfl⟩
    subst ewo
    have Hj := Lib.hid hj
    have Heq := Lib.hid heq
    obtain ⟨va', vb', va, fa, hsa, vb, fb, hsb⟩ := Hc.out _ _ _ _ hj
    have HM : Hid (sliceLen (wo.cell? ⟨ka, 0, none⟩) + sliceLen (wo.cell? ⟨kb, 0, none⟩) = A.length + B.length) := by
      obtain ⟨b1, e1, h1, -⟩ := hsa.form
      obtain ⟨b2, e2, h2, -⟩ := hsb.form
      show sliceLen _ + sliceLen _ = _
      rw [va, vb, h1, h2]
      simp [sliceLen]
    clear hj heq
    rcases A with _ | ⟨x, A⟩
    · obtain ⟨a1, c1, rfl, -, -, -, -⟩ := hsa.form
      obtain ⟨a2, c2, rfl, -, -, -, -⟩ := hsb.form
      have hfin : J [] B (sharedL A0 B0) wo := by
        have h := Heq.out
        rw [sharedL, List.append_nil] at h
        rw [← h]; exact Hj.out
      have Hfin := Lib.hid hfin
      simp only [List.length_nil] at va
      clear hsa hsb hfin
      gi_wp2_with fail
      simp only [Exit.noGoto]
      go_end0
      exact ⟨⟨_, rfl⟩, _, _, Hfin.out⟩
    rcases B with _ | ⟨y, B⟩
    · obtain ⟨a1, c1, rfl, -, -, -, -⟩ := hsa.form
      obtain ⟨a2, c2, rfl, -, -, -, -⟩ := hsb.form
      have hfin : J (x :: A) [] (sharedL A0 B0) wo := by
        have h := Heq.out
        rw [sharedL, List.append_nil] at h
        rw [← h]; exact Hj.out
      have Hfin := Lib.hid hfin
      have hn : (0 : Int) < ((x :: A).length : Int) := by simp only [List.length_cons]; omega
      simp only [List.length_nil] at vb
      clear hsa hsb hfin
      gi_wp2_with fail
      simp only [Exit.noGoto]
      go_end0
      exact ⟨⟨_, rfl⟩, _, _, Hfin.out⟩
    obtain ⟨a1, ca, rfl, -, -, -, hca⟩ := hsa.form
    obtain ⟨a2, cb, rfl, -, -, -, hcb⟩ := hsb.form
    obtain ⟨ba, oa, rfl, -, hba', hcea⟩ := hca 0 (by simp)
    obtain ⟨bb, ob, rfl, -, hbb', hceb⟩ := hcb 0 (by simp)
    obtain ⟨cs1, _, hcs1, rfl⟩ := hcea 0 (by simp)
    obtain ⟨cs2, _, hcs2, rfl⟩ := hceb 0 (by simp)
    obtain ⟨x0, x1⟩ := CellsAt.c2 (show CellsAt wo ba (oa + 0 * 2) [.int .i64 x.f, .int .i64 x.t] from hcs1)
    obtain ⟨y0, y1⟩ := CellsAt.c2 (show CellsAt wo bb (ob + 0 * 2) [.int .i64 y.f, .int .i64 y.t] from hcs2)
    rw [Nat.zero_mul, Nat.add_zero] at x0 x1 y0 y1
    obtain ⟨na, ena⟩ : ∃ n, n = (x :: A).length := ⟨_, rfl⟩
    obtain ⟨nb, enb⟩ : ∃ n, n = (y :: B).length := ⟨_, rfl⟩
    rw [← ena] at va
    rw [← enb] at vb
    have hna : (0 : Int) < (na : Int) := by rw [ena]; simp only [List.length_cons]; omega
    have hnb : (0 : Int) < (nb : Int) := by rw [enb]; simp only [List.length_cons]; omega
    clear hcs1 hcs2 hca hcb hcea hceb hsa hsb ena enb
    have hka := World.block_lt_of_cell? _ _ va
    have hkb := World.block_lt_of_cell? _ _ vb
    have hba := World.block_lt_of_cell? _ _ x0
    have hbb := World.block_lt_of_cell? _ _ y0
    simp only at hka hkb hba hbb
    gi_wp2_with fail
    refine wpIn_wide.2 ?_
    refine wp_region_held_drew (S := fun w' => Below wo.heap.size wo w') (by kernel_rfl) (Below.drew (Below.refl _ _)) (fun hHeld => ?_)
    refine wpAnyH_take (i := 0) (v := .slice (some ⟨ba, oa, none⟩) na ca) rfl (by kernel_rfl) (by kernel_rfl) (by kernel_rfl) (fun _ _ _ h => h) (Or.inl ⟨by rfl, ?_⟩) hHeld ?_
    · intro w' hSw; have kx := (World.cell?_of_block (hSw.block _ hka)).trans va; go_simp
    try simp only [Act.put, List.getElem_toArray, List.getElem_cons_succ, List.getElem_cons_zero, List.setIfInBounds_toArray, List.set_cons_zero, List.set_cons_succ]
    refine wpAnyH_take (i := 1) (v := .pointer (some ⟨ba, oa, none⟩)) rfl (by kernel_rfl) (by kernel_rfl) (by kernel_rfl) (fun _ _ _ h => h) (Or.inl ⟨by rfl, ?_⟩) hHeld ?_
    · intro w' hSw; go_simp <;> omega
    try simp only [Act.put, List.getElem_toArray, List.getElem_cons_succ, List.getElem_cons_zero, List.setIfInBounds_toArray, List.set_cons_zero, List.set_cons_succ]
    refine wpAnyH_take (i := 2) (v := .pointer (some ⟨ba, oa, none⟩)) rfl (by kernel_rfl) (by kernel_rfl) (by kernel_rfl) (fun _ _ _ h => h) (Or.inl ⟨by rfl, ?_⟩) hHeld ?_
    · intro w' hSw; go_simp <;> omega
    try simp only [Act.put, List.getElem_toArray, List.getElem_cons_succ, List.getElem_cons_zero, List.setIfInBounds_toArray, List.set_cons_zero, List.set_cons_succ]
    refine wpAnyH_take (i := 3) (v := .int .i64 (x.f)) rfl (by kernel_rfl) (by kernel_rfl) (by kernel_rfl) (fun _ _ _ h => h) (Or.inl ⟨by rfl, ?_⟩) hHeld ?_
    · intro w' hSw; have kx := (World.cell?_of_block (hSw.block _ hba)).trans x0; go_simp
    try simp only [Act.put, List.getElem_toArray, List.getElem_cons_succ, List.getElem_cons_zero, List.setIfInBounds_toArray, List.set_cons_zero, List.set_cons_succ]
    refine wpAnyH_take (i := 4) (v := .slice (some ⟨bb, ob, none⟩) nb cb) rfl (by kernel_rfl) (by kernel_rfl) (by kernel_rfl) (fun _ _ _ h => h) (Or.inl ⟨by rfl, ?_⟩) hHeld ?_
    · intro w' hSw; have kx := (World.cell?_of_block (hSw.block _ hkb)).trans vb; go_simp
    try simp only [Act.put, List.getElem_toArray, List.getElem_cons_succ, List.getElem_cons_zero, List.setIfInBounds_toArray, List.set_cons_zero, List.set_cons_succ]
    refine wpAnyH_take (i := 5) (v := .pointer (some ⟨bb, ob, none⟩)) rfl (by kernel_rfl) (by kernel_rfl) (by kernel_rfl) (fun _ _ _ h => h) (Or.inl ⟨by rfl, ?_⟩) hHeld ?_
    · intro w' hSw; go_simp <;> omega
    try simp only [Act.put, List.getElem_toArray, List.getElem_cons_succ, List.getElem_cons_zero, List.setIfInBounds_toArray, List.set_cons_zero, List.set_cons_succ]
    refine wpAnyH_take (i := 6) (v := .pointer (some ⟨bb, ob, none⟩)) rfl (by kernel_rfl) (by kernel_rfl) (by kernel_rfl) (fun _ _ _ h => h) (Or.inl ⟨by rfl, ?_⟩) hHeld ?_
    · intro w' hSw; go_simp <;> omega
    try simp only [Act.put, List.getElem_toArray, List.getElem_cons_succ, List.getElem_cons_zero, List.setIfInBounds_toArray, List.set_cons_zero, List.set_cons_succ]
    refine wpAnyH_take (i := 7) (v := .int .i64 (y.f)) rfl (by kernel_rfl) (by kernel_rfl) (by kernel_rfl) (fun _ _ _ h => h) (Or.inl ⟨by rfl, ?_⟩) hHeld ?_
    · intro w' hSw; have kx := (World.cell?_of_block (hSw.block _ hbb)).trans y0; go_simp
    try simp only [Act.put, List.getElem_toArray, List.getElem_cons_succ, List.getElem_cons_zero, List.setIfInBounds_toArray, List.set_cons_zero, List.set_cons_succ]
    refine wpAnyH_take (i := 8) (v := .int .i64 ((mx x.f y.f))) rfl (by kernel_rfl) (by kernel_rfl) (by kernel_rfl) (fun _ _ _ h => h) (Or.inl ⟨by rfl, ?_⟩) hHeld ?_
    · intro w' hSw; rw [show mx x.f y.f = if x.f < y.f then y.f else x.f from rfl]; go_simp
    try simp only [Act.put, List.getElem_toArray, List.getElem_cons_succ, List.getElem_cons_zero, List.setIfInBounds_toArray, List.set_cons_zero, List.set_cons_succ]
    refine wpAnyH_take (i := 9) (v := .slice (some ⟨ba, oa, none⟩) na ca) rfl (by kernel_rfl) (by kernel_rfl) (by kernel_rfl) (fun _ _ _ h => h) (Or.inl ⟨by rfl, ?_⟩) hHeld ?_
    · intro w' hSw; have kx := (World.cell?_of_block (hSw.block _ hka)).trans va; go_simp
    try simp only [Act.put, List.getElem_toArray, List.getElem_cons_succ, List.getElem_cons_zero, List.setIfInBounds_toArray, List.set_cons_zero, List.set_cons_succ]
    refine wpAnyH_take (i := 10) (v := .pointer (some ⟨ba, oa, none⟩)) rfl (by kernel_rfl) (by kernel_rfl) (by kernel_rfl) (fun _ _ _ h => h) (Or.inl ⟨by rfl, ?_⟩) hHeld ?_
    · intro w' hSw; go_simp <;> omega
    try simp only [Act.put, List.getElem_toArray, List.getElem_cons_succ, List.getElem_cons_zero, List.setIfInBounds_toArray, List.set_cons_zero, List.set_cons_succ]
    refine wpAnyH_take (i := 11) (v := .pointer (some ⟨ba, oa + 1, none⟩)) rfl (by kernel_rfl) (by kernel_rfl) (by kernel_rfl) (fun _ _ _ h => h) (Or.inl ⟨by rfl, ?_⟩) hHeld ?_
    · intro w' hSw; go_simp <;> omega
    try simp only [Act.put, List.getElem_toArray, List.getElem_cons_succ, List.getElem_cons_zero, List.setIfInBounds_toArray, List.set_cons_zero, List.set_cons_succ]
    refine wpAnyH_take (i := 12) (v := .int .i64 (x.t)) rfl (by kernel_rfl) (by kernel_rfl) (by kernel_rfl) (fun _ _ _ h => h) (Or.inl ⟨by rfl, ?_⟩) hHeld ?_
    · intro w' hSw; have kx := (World.cell?_of_block (hSw.block _ hba)).trans x1; go_simp
    try simp only [Act.put, List.getElem_toArray, List.getElem_cons_succ, List.getElem_cons_zero, List.setIfInBounds_toArray, List.set_cons_zero, List.set_cons_succ]
    refine wpAnyH_take (i := 13) (v := .slice (some ⟨bb, ob, none⟩) nb cb) rfl (by kernel_rfl) (by kernel_rfl) (by kernel_rfl) (fun _ _ _ h => h) (Or.inl ⟨by rfl, ?_⟩) hHeld ?_
    · intro w' hSw; have kx := (World.cell?_of_block (hSw.block _ hkb)).trans vb; go_simp
    try simp only [Act.put, List.getElem_toArray, List.getElem_cons_succ, List.getElem_cons_zero, List.setIfInBounds_toArray, List.set_cons_zero, List.set_cons_succ]
    refine wpAnyH_take (i := 14) (v := .pointer (some ⟨bb, ob, none⟩)) rfl (by kernel_rfl) (by kernel_rfl) (by kernel_rfl) (fun _ _ _ h => h) (Or.inl ⟨by rfl, ?_⟩) hHeld ?_
    · intro w' hSw; go_simp <;> omega
    try simp only [Act.put, List.getElem_toArray, List.getElem_cons_succ, List.getElem_cons_zero, List.setIfInBounds_toArray, List.set_cons_zero, List.set_cons_succ]
    refine wpAnyH_take (i := 15) (v := .pointer (some ⟨bb, ob + 1, none⟩)) rfl (by kernel_rfl) (by kernel_rfl) (by kernel_rfl) (fun _ _ _ h => h) (Or.inl ⟨by rfl, ?_⟩) hHeld ?_
    · intro w' hSw; go_simp <;> omega
    try simp only [Act.put, List.getElem_toArray, List.getElem_cons_succ, List.getElem_cons_zero, List.setIfInBounds_toArray, List.set_cons_zero, List.set_cons_succ]
    refine wpAnyH_take (i := 16) (v := .int .i64 (y.t)) rfl (by kernel_rfl) (by kernel_rfl) (by kernel_rfl) (fun _ _ _ h => h) (Or.inl ⟨by rfl, ?_⟩) hHeld ?_
    · intro w' hSw; have kx := (World.cell?_of_block (hSw.block _ hbb)).trans y1; go_simp
    try simp only [Act.put, List.getElem_toArray, List.getElem_cons_succ, List.getElem_cons_zero, List.setIfInBounds_toArray, List.set_cons_zero, List.set_cons_succ]
    refine wpAnyH_take (i := 17) (v := .int .i64 ((mn x.t y.t))) rfl (by kernel_rfl) (by kernel_rfl) (by kernel_rfl) (fun _ _ _ h => h) (Or.inl ⟨by rfl, ?_⟩) hHeld ?_
    · intro w' hSw; rw [show mn x.t y.t = if y.t < x.t then y.t else x.t from rfl]; go_simp
    try simp only [Act.put, List.getElem_toArray, List.getElem_cons_succ, List.getElem_cons_zero, List.setIfInBounds_toArray, List.set_cons_zero, List.set_cons_succ]
    refine wpAnyH_take (i := 18) (v := .agg #[.int .i64 ((mx x.f y.f)), .int .i64 ((mn x.t y.t))]) rfl (by kernel_rfl) (by kernel_rfl) (by kernel_rfl) (fun _ _ _ h => h) (Or.inl ⟨by rfl, ?_⟩) hHeld ?_
    · intro w' hSw; go_simp <;> omega
    try simp only [Act.put, List.getElem_toArray, List.getElem_cons_succ, List.getElem_cons_zero, List.setIfInBounds_toArray, List.set_cons_zero, List.set_cons_succ]
    refine wpAnyH_ready (rs := [19]) (by kernel_rfl) (by simp) ?_
    refine allVal (v := .pointer (some ⟨wo.heap.size, 0, none⟩)) (w' := wo.drew.alloc (.cells #[.int .i64 0, .int .i64 0] 58)) rfl (by kernel_rfl) ?_ (hHeld.alloc hHeld.size _) ?_ AllReadyH.nil
    · go_simp
    try simp only [Act.put, List.getElem_toArray, List.getElem_cons_succ, List.getElem_cons_zero, List.setIfInBounds_toArray, List.set_cons_zero, List.set_cons_succ]
    have hHeld3 := hHeld.alloc hHeld.size (.cells #[.int .i64 (mx x.f y.f), .int .i64 (mn x.t y.t)] 58)
    have hHeld2 := hHeld.alloc hHeld.size (.cells #[.int .i64 0, .int .i64 0] 58)
    clear hHeld
    have hHeld := hHeld2
    clear hHeld2
    refine wpAnyH_ready (rs := [20]) (by kernel_rfl) (by simp) ?_
    refine allSkip (w' := wo.drew.alloc (.cells #[.int .i64 (mx x.f y.f), .int .i64 (mn x.t y.t)] 58)) rfl (by kernel_rfl) ?_ hHeld3 ?_ AllReadyH.nil
    · go_simp
    try simp only [Act.put, List.getElem_toArray, List.getElem_cons_succ, List.getElem_cons_zero, List.setIfInBounds_toArray, List.set_cons_zero, List.set_cons_succ]
    have hal := hHeld3
    have hbk := Blk.new wo.drew [.int .i64 (mx x.f y.f), .int .i64 (mn x.t y.t)] 58 (n := wo.heap.size) rfl
    clear hHeld3
    refine wpAnyH_done (by kernel_rfl) ?_ _
    clear hHeld
    generalize wo.drew.alloc (.cells #[.int .i64 (mx x.f y.f), .int .i64 (mn x.t y.t)] 58) = wa at *
    have Hja := Lib.hid (Hgrow.out _ _ _ _ _ Hj.out hal)
    obtain ⟨z0, z1⟩ := hbk.cells.c2
    clear hal hbk
    by_cases hyl : mx x.f y.f < mn x.t y.t
    · obtain ⟨yf, yt, ya, yb, hy, hR⟩ := HY.out _ _ _ wa ⟨mx x.f y.f, mn x.t y.t⟩ Hja.out (by simp only [List.length_cons] at hle; omega)
      clear va vb x0 x1 y0 y1 hka hkb hba hbb
      gi_wp2_with fail
      refine hR.mono ?_
      rintro e3 wm ⟨rfl, hjm⟩
      have Hjm := Lib.hid hjm
      have Heq2 : Hid ((e ++ [⟨mx x.f y.f, mn x.t y.t⟩]) ++ (if x.t < y.t then sharedL A (y :: B) else sharedL (x :: A) B) = sharedL A0 B0) := Lib.hid (by
        have h := Heq.out
        rw [sharedL, meet1, if_pos hyl] at h
        rw [← h, List.append_assoc])
      have Hle2 : Hid ((e ++ [(⟨mx x.f y.f, mn x.t y.t⟩ : Sp)]).length + (x :: A).length + (y :: B).length ≤ A0.length + B0.length + 1) := Lib.hid (by rw [List.length_append]; simp only [List.length_cons, List.length_nil] at hle ⊢; omega)
      generalize e ++ [(⟨mx x.f y.f, mn x.t y.t⟩ : Sp)] = e' at *
      clear hjm hR hy z0 z1
      gi_wp2_with fail
      obtain ⟨va', vb', va, fa, hsa, vb, fb, hsb⟩ := Hc.out _ _ _ _ Hjm.out
      obtain ⟨a1, ca, rfl, -, -, -, hca⟩ := hsa.form
      obtain ⟨a2, cb, rfl, -, -, -, hcb⟩ := hsb.form
      obtain ⟨ba, oa, rfl, -, hba', hcea⟩ := hca 0 (by simp)
      obtain ⟨bb, ob, rfl, -, hbb', hceb⟩ := hcb 0 (by simp)
      obtain ⟨cs1, _, hcs1, rfl⟩ := hcea 0 (by simp)
      obtain ⟨cs2, _, hcs2, rfl⟩ := hceb 0 (by simp)
      obtain ⟨x0, x1⟩ := CellsAt.c2 (show CellsAt wm ba (oa + 0 * 2) [.int .i64 x.f, .int .i64 x.t] from hcs1)
      obtain ⟨y0, y1⟩ := CellsAt.c2 (show CellsAt wm bb (ob + 0 * 2) [.int .i64 y.f, .int .i64 y.t] from hcs2)
      rw [Nat.zero_mul, Nat.add_zero] at x0 x1 y0 y1
      obtain ⟨na, ena⟩ : ∃ n, n = (x :: A).length := ⟨_, rfl⟩
      obtain ⟨nb, enb⟩ : ∃ n, n = (y :: B).length := ⟨_, rfl⟩
      rw [← ena] at va
      rw [← enb] at vb
      have hna : (0 : Int) < (na : Int) := by rw [ena]; simp only [List.length_cons]; omega
      have hnb : (0 : Int) < (nb : Int) := by rw [enb]; simp only [List.length_cons]; omega
      clear hcs1 hcs2 hca hcb hcea hceb hsa hsb ena enb
      have Hjm2 := Lib.hid (Hgrow.out _ _ _ _ _ Hjm.out (Below.drew (Below.refl _ _)))
      by_cases hlt : x.t < y.t
      ·
        refine wpIn_wide.2 ?_
        refine wp_region_held_drew (S := fun w' => w' = wm.drew) (by kernel_rfl) rfl (fun hHeld => ?_)
        refine wpAnyH_take (i := 0) (v := .slice (some ⟨ba, oa, none⟩) na ca) rfl (by kernel_rfl) (by kernel_rfl) (by kernel_rfl) (fun _ _ _ h => h) (Or.inl ⟨by rfl, ?_⟩) hHeld ?_
        · intro w' hSw; subst hSw; have kx := va; go_simp
        try simp only [Act.put, List.getElem_toArray, List.getElem_cons_succ, List.getElem_cons_zero, List.setIfInBounds_toArray, List.set_cons_zero, List.set_cons_succ]
        refine wpAnyH_take (i := 1) (v := .pointer (some ⟨ba, oa, none⟩)) rfl (by kernel_rfl) (by kernel_rfl) (by kernel_rfl) (fun _ _ _ h => h) (Or.inl ⟨by rfl, ?_⟩) hHeld ?_
        · intro w' hSw; subst hSw; go_simp <;> omega
        try simp only [Act.put, List.getElem_toArray, List.getElem_cons_succ, List.getElem_cons_zero, List.setIfInBounds_toArray, List.set_cons_zero, List.set_cons_succ]
        refine wpAnyH_take (i := 2) (v := .pointer (some ⟨ba, oa + 1, none⟩)) rfl (by kernel_rfl) (by kernel_rfl) (by kernel_rfl) (fun _ _ _ h => h) (Or.inl ⟨by rfl, ?_⟩) hHeld ?_
        · intro w' hSw; subst hSw; go_simp <;> omega
        try simp only [Act.put, List.getElem_toArray, List.getElem_cons_succ, List.getElem_cons_zero, List.setIfInBounds_toArray, List.set_cons_zero, List.set_cons_succ]
        refine wpAnyH_take (i := 3) (v := .int .i64 (x.t)) rfl (by kernel_rfl) (by kernel_rfl) (by kernel_rfl) (fun _ _ _ h => h) (Or.inl ⟨by rfl, ?_⟩) hHeld ?_
        · intro w' hSw; subst hSw; have kx := x1; go_simp
        try simp only [Act.put, List.getElem_toArray, List.getElem_cons_succ, List.getElem_cons_zero, List.setIfInBounds_toArray, List.set_cons_zero, List.set_cons_succ]
        refine wpAnyH_take (i := 4) (v := .slice (some ⟨bb, ob, none⟩) nb cb) rfl (by kernel_rfl) (by kernel_rfl) (by kernel_rfl) (fun _ _ _ h => h) (Or.inl ⟨by rfl, ?_⟩) hHeld ?_
        · intro w' hSw; subst hSw; have kx := vb; go_simp
        try simp only [Act.put, List.getElem_toArray, List.getElem_cons_succ, List.getElem_cons_zero, List.setIfInBounds_toArray, List.set_cons_zero, List.set_cons_succ]
        refine wpAnyH_take (i := 5) (v := .pointer (some ⟨bb, ob, none⟩)) rfl (by kernel_rfl) (by kernel_rfl) (by kernel_rfl) (fun _ _ _ h => h) (Or.inl ⟨by rfl, ?_⟩) hHeld ?_
        · intro w' hSw; subst hSw; go_simp <;> omega
        try simp only [Act.put, List.getElem_toArray, List.getElem_cons_succ, List.getElem_cons_zero, List.setIfInBounds_toArray, List.set_cons_zero, List.set_cons_succ]
        refine wpAnyH_take (i := 6) (v := .pointer (some ⟨bb, ob + 1, none⟩)) rfl (by kernel_rfl) (by kernel_rfl) (by kernel_rfl) (fun _ _ _ h => h) (Or.inl ⟨by rfl, ?_⟩) hHeld ?_
        · intro w' hSw; subst hSw; go_simp <;> omega
        try simp only [Act.put, List.getElem_toArray, List.getElem_cons_succ, List.getElem_cons_zero, List.setIfInBounds_toArray, List.set_cons_zero, List.set_cons_succ]
        refine wpAnyH_take (i := 7) (v := .int .i64 (y.t)) rfl (by kernel_rfl) (by kernel_rfl) (by kernel_rfl) (fun _ _ _ h => h) (Or.inl ⟨by rfl, ?_⟩) hHeld ?_
        · intro w' hSw; subst hSw; have kx := y1; go_simp
        try simp only [Act.put, List.getElem_toArray, List.getElem_cons_succ, List.getElem_cons_zero, List.setIfInBounds_toArray, List.set_cons_zero, List.set_cons_succ]
        refine wpAnyH_take (i := 8) (v := .bool true) rfl (by kernel_rfl) (by kernel_rfl) (by kernel_rfl) (fun _ _ _ h => h) (Or.inl ⟨by rfl, ?_⟩) hHeld ?_
        · intro w' hSw; subst hSw; go_simp <;> omega
        try simp only [Act.put, List.getElem_toArray, List.getElem_cons_succ, List.getElem_cons_zero, List.setIfInBounds_toArray, List.set_cons_zero, List.set_cons_succ]
        refine wpAnyH_done (by kernel_rfl) ?_ _
        clear hHeld
        clear va vb x0 x1 y0 y1 fa fb
        obtain ⟨wn, ewn⟩ : ∃ x, x = wm.drew := ⟨_, rfl⟩
        rw [← ewn] at Hjm2 ⊢
        clear ewn
        obtain ⟨va', vb', va, fa, hsa, vb, fb, hsb⟩ := Hc.out _ _ _ _ Hjm2.out
        obtain ⟨a1, c1, rfl, -, -, -, -⟩ := hsa.form
        obtain ⟨a2, c2, rfl, -, -, -, -⟩ := hsb.form
        obtain ⟨v4, hrun4, hs4⟩ := Sl.fromOn hsa 43 Try.underlying43 size_Sp 1 (by simp)
        rw [List.drop_succ_cons, List.drop_zero] at hs4
        obtain ⟨a4, c4, rfl, -, -, -, -⟩ := hs4.form
        have Hj4 := Lib.hid (HstA.out _ _ _ _ _ _ Hjm2.out hs4)
        have HM4 : Hid (sliceLen ((wn.setCell ⟨ka, 0, none⟩ (.slice a4 A.length c4)).cell? ⟨ka, 0, none⟩) + sliceLen ((wn.setCell ⟨ka, 0, none⟩ (.slice a4 A.length c4)).cell? ⟨kb, 0, none⟩) = A.length + B.length + 1) := by
          obtain ⟨u1, u2, d1, -, d2, d3, -, d4⟩ := Hc.out _ _ _ _ Hj4.out
          obtain ⟨b1, e1, h1, -⟩ := d2.form
          obtain ⟨b2, e2, h2, -⟩ := d4.form
          show sliceLen _ + sliceLen _ = _
          rw [d1, d3, h1, h2]
          simp [sliceLen]
          omega
        obtain ⟨na2, ena2⟩ : ∃ n, n = (x :: A).length := ⟨_, rfl⟩
        obtain ⟨nb2, enb2⟩ : ∃ n, n = (y :: B).length := ⟨_, rfl⟩
        rw [← ena2] at va
        rw [← enb2] at vb
        rw [← ena2] at hrun4
        have hrun : ∀ w', (Instr.slice 43 (.slice a1 na2 c1) (some (.int .i64 1)) none none).run Try.prog w' = .ok (.slice a4 A.length c4) w' := hrun4
        clear hsa hsb hs4 ena2 enb2 hrun4
        gi_wp2_with fail
        go_roundw
        case rel => exact ⟨_, _, _, Hj4.out, by have h9 := Hle2.out; simp only [List.length_cons] at h9 ⊢; omega, by rw [← Heq2.out, if_pos hlt]⟩
        case measure => rw [HM4.out, HM.out]; simp only [List.length_cons]; omega
      ·
        refine wpIn_wide.2 ?_
        refine wp_region_held_drew (S := fun w' => w' = wm.drew) (by kernel_rfl) rfl (fun hHeld => ?_)
        refine wpAnyH_take (i := 0) (v := .slice (some ⟨ba, oa, none⟩) na ca) rfl (by kernel_rfl) (by kernel_rfl) (by kernel_rfl) (fun _ _ _ h => h) (Or.inl ⟨by rfl, ?_⟩) hHeld ?_
        · intro w' hSw; subst hSw; have kx := va; go_simp
        try simp only [Act.put, List.getElem_toArray, List.getElem_cons_succ, List.getElem_cons_zero, List.setIfInBounds_toArray, List.set_cons_zero, List.set_cons_succ]
        refine wpAnyH_take (i := 1) (v := .pointer (some ⟨ba, oa, none⟩)) rfl (by kernel_rfl) (by kernel_rfl) (by kernel_rfl) (fun _ _ _ h => h) (Or.inl ⟨by rfl, ?_⟩) hHeld ?_
        · intro w' hSw; subst hSw; go_simp <;> omega
        try simp only [Act.put, List.getElem_toArray, List.getElem_cons_succ, List.getElem_cons_zero, List.setIfInBounds_toArray, List.set_cons_zero, List.set_cons_succ]
        refine wpAnyH_take (i := 2) (v := .pointer (some ⟨ba, oa + 1, none⟩)) rfl (by kernel_rfl) (by kernel_rfl) (by kernel_rfl) (fun _ _ _ h => h) (Or.inl ⟨by rfl, ?_⟩) hHeld ?_
        · intro w' hSw; subst hSw; go_simp <;> omega
        try simp only [Act.put, List.getElem_toArray, List.getElem_cons_succ, List.getElem_cons_zero, List.setIfInBounds_toArray, List.set_cons_zero, List.set_cons_succ]
        refine wpAnyH_take (i := 3) (v := .int .i64 (x.t)) rfl (by kernel_rfl) (by kernel_rfl) (by kernel_rfl) (fun _ _ _ h => h) (Or.inl ⟨by rfl, ?_⟩) hHeld ?_
        · intro w' hSw; subst hSw; have kx := x1; go_simp
        try simp only [Act.put, List.getElem_toArray, List.getElem_cons_succ, List.getElem_cons_zero, List.setIfInBounds_toArray, List.set_cons_zero, List.set_cons_succ]
        refine wpAnyH_take (i := 4) (v := .slice (some ⟨bb, ob, none⟩) nb cb) rfl (by kernel_rfl) (by kernel_rfl) (by kernel_rfl) (fun _ _ _ h => h) (Or.inl ⟨by rfl, ?_⟩) hHeld ?_
        · intro w' hSw; subst hSw; have kx := vb; go_simp
        try simp only [Act.put, List.getElem_toArray, List.getElem_cons_succ, List.getElem_cons_zero, List.setIfInBounds_toArray, List.set_cons_zero, List.set_cons_succ]
        refine wpAnyH_take (i := 5) (v := .pointer (some ⟨bb, ob, none⟩)) rfl (by kernel_rfl) (by kernel_rfl) (by kernel_rfl) (fun _ _ _ h => h) (Or.inl ⟨by rfl, ?_⟩) hHeld ?_
        · intro w' hSw; subst hSw; go_simp <;> omega
        try simp only [Act.put, List.getElem_toArray, List.getElem_cons_succ, List.getElem_cons_zero, List.setIfInBounds_toArray, List.set_cons_zero, List.set_cons_succ]
        refine wpAnyH_take (i := 6) (v := .pointer (some ⟨bb, ob + 1, none⟩)) rfl (by kernel_rfl) (by kernel_rfl) (by kernel_rfl) (fun _ _ _ h => h) (Or.inl ⟨by rfl, ?_⟩) hHeld ?_
        · intro w' hSw; subst hSw; go_simp <;> omega
        try simp only [Act.put, List.getElem_toArray, List.getElem_cons_succ, List.getElem_cons_zero, List.setIfInBounds_toArray, List.set_cons_zero, List.set_cons_succ]
        refine wpAnyH_take (i := 7) (v := .int .i64 (y.t)) rfl (by kernel_rfl) (by kernel_rfl) (by kernel_rfl) (fun _ _ _ h => h) (Or.inl ⟨by rfl, ?_⟩) hHeld ?_
        · intro w' hSw; subst hSw; have kx := y1; go_simp
        try simp only [Act.put, List.getElem_toArray, List.getElem_cons_succ, List.getElem_cons_zero, List.setIfInBounds_toArray, List.set_cons_zero, List.set_cons_succ]
        refine wpAnyH_take (i := 8) (v := .bool false) rfl (by kernel_rfl) (by kernel_rfl) (by kernel_rfl) (fun _ _ _ h => h) (Or.inl ⟨by rfl, ?_⟩) hHeld ?_
        · intro w' hSw; subst hSw; go_simp <;> omega
        try simp only [Act.put, List.getElem_toArray, List.getElem_cons_succ, List.getElem_cons_zero, List.setIfInBounds_toArray, List.set_cons_zero, List.set_cons_succ]
        refine wpAnyH_done (by kernel_rfl) ?_ _
        clear hHeld
        clear va vb x0 x1 y0 y1 fa fb
        obtain ⟨wn, ewn⟩ : ∃ x, x = wm.drew := ⟨_, rfl⟩
        rw [← ewn] at Hjm2 ⊢
        clear ewn
        obtain ⟨va', vb', va, fa, hsa, vb, fb, hsb⟩ := Hc.out _ _ _ _ Hjm2.out
        obtain ⟨a1, c1, rfl, -, -, -, -⟩ := hsa.form
        obtain ⟨a2, c2, rfl, -, -, -, -⟩ := hsb.form
        obtain ⟨v4, hrun4, hs4⟩ := Sl.fromOn hsb 43 Try.underlying43 size_Sp 1 (by simp)
        rw [List.drop_succ_cons, List.drop_zero] at hs4
        obtain ⟨a4, c4, rfl, -, -, -, -⟩ := hs4.form
        have Hj4 := Lib.hid (HstB.out _ _ _ _ _ _ Hjm2.out hs4)
        have HM4 : Hid (sliceLen ((wn.setCell ⟨kb, 0, none⟩ (.slice a4 B.length c4)).cell? ⟨ka, 0, none⟩) + sliceLen ((wn.setCell ⟨kb, 0, none⟩ (.slice a4 B.length c4)).cell? ⟨kb, 0, none⟩) = A.length + B.length + 1) := by
          obtain ⟨u1, u2, d1, -, d2, d3, -, d4⟩ := Hc.out _ _ _ _ Hj4.out
          obtain ⟨b1, e1, h1, -⟩ := d2.form
          obtain ⟨b2, e2, h2, -⟩ := d4.form
          show sliceLen _ + sliceLen _ = _
          rw [d1, d3, h1, h2]
          simp [sliceLen]
          omega
        obtain ⟨na2, ena2⟩ : ∃ n, n = (x :: A).length := ⟨_, rfl⟩
        obtain ⟨nb2, enb2⟩ : ∃ n, n = (y :: B).length := ⟨_, rfl⟩
        rw [← ena2] at va
        rw [← enb2] at vb
        rw [← enb2] at hrun4
        have hrun : ∀ w', (Instr.slice 43 (.slice a2 nb2 c2) (some (.int .i64 1)) none none).run Try.prog w' = .ok (.slice a4 B.length c4) w' := hrun4
        clear hsa hsb hs4 ena2 enb2 hrun4
        gi_wp2_with fail
        go_roundw
        case rel => exact ⟨_, _, _, Hj4.out, by have h9 := Hle2.out; simp only [List.length_cons] at h9 ⊢; omega, by rw [← Heq2.out, if_neg hlt]⟩
        case measure => rw [HM4.out, HM.out]; simp only [List.length_cons]; omega
    · have Hjm := Hja
      have Heq2 : Hid (e ++ (if x.t < y.t then sharedL A (y :: B) else sharedL (x :: A) B) = sharedL A0 B0) := Lib.hid (by
        have h := Heq.out
        rw [sharedL, meet1, if_neg hyl, List.nil_append] at h
        exact h)
      have Hle2 : Hid (e.length + (x :: A).length + (y :: B).length ≤ A0.length + B0.length + 1) := Lib.hid (by omega)
      clear va vb x0 x1 y0 y1 hka hkb hba hbb fa fb
      gi_wp2_with fail
      refine ⟨fun f h => (by cases h), ?_⟩
      gi_wp2_with fail
      obtain ⟨wm, ewm⟩ : ∃ x, x = wa := ⟨_, rfl⟩
      subst ewm
      obtain ⟨va', vb', va, fa, hsa, vb, fb, hsb⟩ := Hc.out _ _ _ _ Hjm.out
      obtain ⟨a1, ca, rfl, -, -, -, hca⟩ := hsa.form
      obtain ⟨a2, cb, rfl, -, -, -, hcb⟩ := hsb.form
      obtain ⟨ba, oa, rfl, -, hba', hcea⟩ := hca 0 (by simp)
      obtain ⟨bb, ob, rfl, -, hbb', hceb⟩ := hcb 0 (by simp)
      obtain ⟨cs1, _, hcs1, rfl⟩ := hcea 0 (by simp)
      obtain ⟨cs2, _, hcs2, rfl⟩ := hceb 0 (by simp)
      obtain ⟨x0, x1⟩ := CellsAt.c2 (show CellsAt wm ba (oa + 0 * 2) [.int .i64 x.f, .int .i64 x.t] from hcs1)
      obtain ⟨y0, y1⟩ := CellsAt.c2 (show CellsAt wm bb (ob + 0 * 2) [.int .i64 y.f, .int .i64 y.t] from hcs2)
      rw [Nat.zero_mul, Nat.add_zero] at x0 x1 y0 y1
      obtain ⟨na, ena⟩ : ∃ n, n = (x :: A).length := ⟨_, rfl⟩
      obtain ⟨nb, enb⟩ : ∃ n, n = (y :: B).length := ⟨_, rfl⟩
      rw [← ena] at va
      rw [← enb] at vb
      have hna : (0 : Int) < (na : Int) := by rw [ena]; simp only [List.length_cons]; omega
      have hnb : (0 : Int) < (nb : Int) := by rw [enb]; simp only [List.length_cons]; omega
      clear hcs1 hcs2 hca hcb hcea hceb hsa hsb ena enb
      have Hjm2 := Lib.hid (Hgrow.out _ _ _ _ _ Hjm.out (Below.drew (Below.refl _ _)))
      by_cases hlt : x.t < y.t
      ·
        refine wpIn_wide.2 ?_
        refine wp_region_held_drew (S := fun w' => w' = wm.drew) (by kernel_rfl) rfl (fun hHeld => ?_)
        refine wpAnyH_take (i := 0) (v := .slice (some ⟨ba, oa, none⟩) na ca) rfl (by kernel_rfl) (by kernel_rfl) (by kernel_rfl) (fun _ _ _ h => h) (Or.inl ⟨by rfl, ?_⟩) hHeld ?_
        · intro w' hSw; subst hSw; have kx := va; go_simp
        try simp only [Act.put, List.getElem_toArray, List.getElem_cons_succ, List.getElem_cons_zero, List.setIfInBounds_toArray, List.set_cons_zero, List.set_cons_succ]
        refine wpAnyH_take (i := 1) (v := .pointer (some ⟨ba, oa, none⟩)) rfl (by kernel_rfl) (by kernel_rfl) (by kernel_rfl) (fun _ _ _ h => h) (Or.inl ⟨by rfl, ?_⟩) hHeld ?_
        · intro w' hSw; subst hSw; go_simp <;> omega
        try simp only [Act.put, List.getElem_toArray, List.getElem_cons_succ, List.getElem_cons_zero, List.setIfInBounds_toArray, List.set_cons_zero, List.set_cons_succ]
        refine wpAnyH_take (i := 2) (v := .pointer (some ⟨ba, oa + 1, none⟩)) rfl (by kernel_rfl) (by kernel_rfl) (by kernel_rfl) (fun _ _ _ h => h) (Or.inl ⟨by rfl, ?_⟩) hHeld ?_
        · intro w' hSw; subst hSw; go_simp <;> omega
        try simp only [Act.put, List.getElem_toArray, List.getElem_cons_succ, List.getElem_cons_zero, List.setIfInBounds_toArray, List.set_cons_zero, List.set_cons_succ]
        refine wpAnyH_take (i := 3) (v := .int .i64 (x.t)) rfl (by kernel_rfl) (by kernel_rfl) (by kernel_rfl) (fun _ _ _ h => h) (Or.inl ⟨by rfl, ?_⟩) hHeld ?_
        · intro w' hSw; subst hSw; have kx := x1; go_simp
        try simp only [Act.put, List.getElem_toArray, List.getElem_cons_succ, List.getElem_cons_zero, List.setIfInBounds_toArray, List.set_cons_zero, List.set_cons_succ]
        refine wpAnyH_take (i := 4) (v := .slice (some ⟨bb, ob, none⟩) nb cb) rfl (by kernel_rfl) (by kernel_rfl) (by kernel_rfl) (fun _ _ _ h => h) (Or.inl ⟨by rfl, ?_⟩) hHeld ?_
        · intro w' hSw; subst hSw; have kx := vb; go_simp
        try simp only [Act.put, List.getElem_toArray, List.getElem_cons_succ, List.getElem_cons_zero, List.setIfInBounds_toArray, List.set_cons_zero, List.set_cons_succ]
        refine wpAnyH_take (i := 5) (v := .pointer (some ⟨bb, ob, none⟩)) rfl (by kernel_rfl) (by kernel_rfl) (by kernel_rfl) (fun _ _ _ h => h) (Or.inl ⟨by rfl, ?_⟩) hHeld ?_
        · intro w' hSw; subst hSw; go_simp <;> omega
        try simp only [Act.put, List.getElem_toArray, List.getElem_cons_succ, List.getElem_cons_zero, List.setIfInBounds_toArray, List.set_cons_zero, List.set_cons_succ]
        refine wpAnyH_take (i := 6) (v := .pointer (some ⟨bb, ob + 1, none⟩)) rfl (by kernel_rfl) (by kernel_rfl) (by kernel_rfl) (fun _ _ _ h => h) (Or.inl ⟨by rfl, ?_⟩) hHeld ?_
        · intro w' hSw; subst hSw; go_simp <;> omega
        try simp only [Act.put, List.getElem_toArray, List.getElem_cons_succ, List.getElem_cons_zero, List.setIfInBounds_toArray, List.set_cons_zero, List.set_cons_succ]
        refine wpAnyH_take (i := 7) (v := .int .i64 (y.t)) rfl (by kernel_rfl) (by kernel_rfl) (by kernel_rfl) (fun _ _ _ h => h) (Or.inl ⟨by rfl, ?_⟩) hHeld ?_
        · intro w' hSw; subst hSw; have kx := y1; go_simp
        try simp only [Act.put, List.getElem_toArray, List.getElem_cons_succ, List.getElem_cons_zero, List.setIfInBounds_toArray, List.set_cons_zero, List.set_cons_succ]
        refine wpAnyH_take (i := 8) (v := .bool true) rfl (by kernel_rfl) (by kernel_rfl) (by kernel_rfl) (fun _ _ _ h => h) (Or.inl ⟨by rfl, ?_⟩) hHeld ?_
        · intro w' hSw; subst hSw; go_simp <;> omega
        try simp only [Act.put, List.getElem_toArray, List.getElem_cons_succ, List.getElem_cons_zero, List.setIfInBounds_toArray, List.set_cons_zero, List.set_cons_succ]
        refine wpAnyH_done (by kernel_rfl) ?_ _
        clear hHeld
        clear va vb x0 x1 y0 y1 fa fb
        obtain ⟨wn, ewn⟩ : ∃ x, x = wm.drew := ⟨_, rfl⟩
        rw [← ewn] at Hjm2 ⊢
        clear ewn
        obtain ⟨va', vb', va, fa, hsa, vb, fb, hsb⟩ := Hc.out _ _ _ _ Hjm2.out
        obtain ⟨a1, c1, rfl, -, -, -, -⟩ := hsa.form
        obtain ⟨a2, c2, rfl, -, -, -, -⟩ := hsb.form
        obtain ⟨v4, hrun4, hs4⟩ := Sl.fromOn hsa 43 Try.underlying43 size_Sp 1 (by simp)
        rw [List.drop_succ_cons, List.drop_zero] at hs4
        obtain ⟨a4, c4, rfl, -, -, -, -⟩ := hs4.form
        have Hj4 := Lib.hid (HstA.out _ _ _ _ _ _ Hjm2.out hs4)
        have HM4 : Hid (sliceLen ((wn.setCell ⟨ka, 0, none⟩ (.slice a4 A.length c4)).cell? ⟨ka, 0, none⟩) + sliceLen ((wn.setCell ⟨ka, 0, none⟩ (.slice a4 A.length c4)).cell? ⟨kb, 0, none⟩) = A.length + B.length + 1) := by
          obtain ⟨u1, u2, d1, -, d2, d3, -, d4⟩ := Hc.out _ _ _ _ Hj4.out
          obtain ⟨b1, e1, h1, -⟩ := d2.form
          obtain ⟨b2, e2, h2, -⟩ := d4.form
          show sliceLen _ + sliceLen _ = _
          rw [d1, d3, h1, h2]
          simp [sliceLen]
          omega
        obtain ⟨na2, ena2⟩ : ∃ n, n = (x :: A).length := ⟨_, rfl⟩
        obtain ⟨nb2, enb2⟩ : ∃ n, n = (y :: B).length := ⟨_, rfl⟩
        rw [← ena2] at va
        rw [← enb2] at vb
        rw [← ena2] at hrun4
        have hrun : ∀ w', (Instr.slice 43 (.slice a1 na2 c1) (some (.int .i64 1)) none none).run Try.prog w' = .ok (.slice a4 A.length c4) w' := hrun4
        clear hsa hsb hs4 ena2 enb2 hrun4
        gi_wp2_with fail
        go_roundw
        case rel => exact ⟨_, _, _, Hj4.out, by have h9 := Hle2.out; simp only [List.length_cons] at h9 ⊢; omega, by rw [← Heq2.out, if_pos hlt]⟩
        case measure => rw [HM4.out, HM.out]; simp only [List.length_cons]; omega
      ·
        refine wpIn_wide.2 ?_
        refine wp_region_held_drew (S := fun w' => w' = wm.drew) (by kernel_rfl) rfl (fun hHeld => ?_)
        refine wpAnyH_take (i := 0) (v := .slice (some ⟨ba, oa, none⟩) na ca) rfl (by kernel_rfl) (by kernel_rfl) (by kernel_rfl) (fun _ _ _ h => h) (Or.inl ⟨by rfl, ?_⟩) hHeld ?_
        · intro w' hSw; subst hSw; have kx := va; go_simp
        try simp only [Act.put, List.getElem_toArray, List.getElem_cons_succ, List.getElem_cons_zero, List.setIfInBounds_toArray, List.set_cons_zero, List.set_cons_succ]
        refine wpAnyH_take (i := 1) (v := .pointer (some ⟨ba, oa, none⟩)) rfl (by kernel_rfl) (by kernel_rfl) (by kernel_rfl) (fun _ _ _ h => h) (Or.inl ⟨by rfl, ?_⟩) hHeld ?_
        · intro w' hSw; subst hSw; go_simp <;> omega
        try simp only [Act.put, List.getElem_toArray, List.getElem_cons_succ, List.getElem_cons_zero, List.setIfInBounds_toArray, List.set_cons_zero, List.set_cons_succ]
        refine wpAnyH_take (i := 2) (v := .pointer (some ⟨ba, oa + 1, none⟩)) rfl (by kernel_rfl) (by kernel_rfl) (by kernel_rfl) (fun _ _ _ h => h) (Or.inl ⟨by rfl, ?_⟩) hHeld ?_
        · intro w' hSw; subst hSw; go_simp <;> omega
        try simp only [Act.put, List.getElem_toArray, List.getElem_cons_succ, List.getElem_cons_zero, List.setIfInBounds_toArray, List.set_cons_zero, List.set_cons_succ]
        refine wpAnyH_take (i := 3) (v := .int .i64 (x.t)) rfl (by kernel_rfl) (by kernel_rfl) (by kernel_rfl) (fun _ _ _ h => h) (Or.inl ⟨by rfl, ?_⟩) hHeld ?_
        · intro w' hSw; subst hSw; have kx := x1; go_simp
        try simp only [Act.put, List.getElem_toArray, List.getElem_cons_succ, List.getElem_cons_zero, List.setIfInBounds_toArray, List.set_cons_zero, List.set_cons_succ]
        refine wpAnyH_take (i := 4) (v := .slice (some ⟨bb, ob, none⟩) nb cb) rfl (by kernel_rfl) (by kernel_rfl) (by kernel_rfl) (fun _ _ _ h => h) (Or.inl ⟨by rfl, ?_⟩) hHeld ?_
        · intro w' hSw; subst hSw; have kx := vb; go_simp
        try simp only [Act.put, List.getElem_toArray, List.getElem_cons_succ, List.getElem_cons_zero, List.setIfInBounds_toArray, List.set_cons_zero, List.set_cons_succ]
        refine wpAnyH_take (i := 5) (v := .pointer (some ⟨bb, ob, none⟩)) rfl (by kernel_rfl) (by kernel_rfl) (by kernel_rfl) (fun _ _ _ h => h) (Or.inl ⟨by rfl, ?_⟩) hHeld ?_
        · intro w' hSw; subst hSw; go_simp <;> omega
        try simp only [Act.put, List.getElem_toArray, List.getElem_cons_succ, List.getElem_cons_zero, List.setIfInBounds_toArray, List.set_cons_zero, List.set_cons_succ]
        refine wpAnyH_take (i := 6) (v := .pointer (some ⟨bb, ob + 1, none⟩)) rfl (by kernel_rfl) (by kernel_rfl) (by kernel_rfl) (fun _ _ _ h => h) (Or.inl ⟨by rfl, ?_⟩) hHeld ?_
        · intro w' hSw; subst hSw; go_simp <;> omega
        try simp only [Act.put, List.getElem_toArray, List.getElem_cons_succ, List.getElem_cons_zero, List.setIfInBounds_toArray, List.set_cons_zero, List.set_cons_succ]
        refine wpAnyH_take (i := 7) (v := .int .i64 (y.t)) rfl (by kernel_rfl) (by kernel_rfl) (by kernel_rfl) (fun _ _ _ h => h) (Or.inl ⟨by rfl, ?_⟩) hHeld ?_
        · intro w' hSw; subst hSw; have kx := y1; go_simp
        try simp only [Act.put, List.getElem_toArray, List.getElem_cons_succ, List.getElem_cons_zero, List.setIfInBounds_toArray, List.set_cons_zero, List.set_cons_succ]
        refine wpAnyH_take (i := 8) (v := .bool false) rfl (by kernel_rfl) (by kernel_rfl) (by kernel_rfl) (fun _ _ _ h => h) (Or.inl ⟨by rfl, ?_⟩) hHeld ?_
        · intro w' hSw; subst hSw; go_simp <;> omega
        try simp only [Act.put, List.getElem_toArray, List.getElem_cons_succ, List.getElem_cons_zero, List.setIfInBounds_toArray, List.set_cons_zero, List.set_cons_succ]
        refine wpAnyH_done (by kernel_rfl) ?_ _
        clear hHeld
        clear va vb x0 x1 y0 y1 fa fb
        obtain ⟨wn, ewn⟩ : ∃ x, x = wm.drew := ⟨_, rfl⟩
        rw [← ewn] at Hjm2 ⊢
        clear ewn
        obtain ⟨va', vb', va, fa, hsa, vb, fb, hsb⟩ := Hc.out _ _ _ _ Hjm2.out
        obtain ⟨a1, c1, rfl, -, -, -, -⟩ := hsa.form
        obtain ⟨a2, c2, rfl, -, -, -, -⟩ := hsb.form
        obtain ⟨v4, hrun4, hs4⟩ := Sl.fromOn hsb 43 Try.underlying43 size_Sp 1 (by simp)
        rw [List.drop_succ_cons, List.drop_zero] at hs4
        obtain ⟨a4, c4, rfl, -, -, -, -⟩ := hs4.form
        have Hj4 := Lib.hid (HstB.out _ _ _ _ _ _ Hjm2.out hs4)
        have HM4 : Hid (sliceLen ((wn.setCell ⟨kb, 0, none⟩ (.slice a4 B.length c4)).cell? ⟨ka, 0, none⟩) + sliceLen ((wn.setCell ⟨kb, 0, none⟩ (.slice a4 B.length c4)).cell? ⟨kb, 0, none⟩) = A.length + B.length + 1) := by
          obtain ⟨u1, u2, d1, -, d2, d3, -, d4⟩ := Hc.out _ _ _ _ Hj4.out
          obtain ⟨b1, e1, h1, -⟩ := d2.form
          obtain ⟨b2, e2, h2, -⟩ := d4.form
          show sliceLen _ + sliceLen _ = _
          rw [d1, d3, h1, h2]
          simp [sliceLen]
          omega
        obtain ⟨na2, ena2⟩ : ∃ n, n = (x :: A).length := ⟨_, rfl⟩
        obtain ⟨nb2, enb2⟩ : ∃ n, n = (y :: B).length := ⟨_, rfl⟩
        rw [← ena2] at va
        rw [← enb2] at vb
        rw [← enb2] at hrun4
        have hrun : ∀ w', (Instr.slice 43 (.slice a2 nb2 c2) (some (.int .i64 1)) none none).run Try.prog w' = .ok (.slice a4 B.length c4) w' := hrun4
        clear hsa hsb hs4 ena2 enb2 hrun4
        gi_wp2_with fail
        go_roundw
        case rel => exact ⟨_, _, _, Hj4.out, by have h9 := Hle2.out; simp only [List.length_cons] at h9 ⊢; omega, by rw [← Heq2.out, if_neg hlt]⟩
        case measure => rw [HM4.out, HM.out]; simp only [List.length_cons]; omega
end Go.Proofs.Ytkcpanaojehgiaa
