/- The document's ByName, ByID, Same. (Printed by schn.py.) -/
import Derived.Test.YtkcpanaojehgiaaSchL
namespace Go.Proofs.Ytkcpanaojehgiaa
open Go.RowKit
set_option linter.unusedVariables false
set_option linter.unusedSimpArgs false

theorem findA_hit {xs : List Attr} {p : Attr → Bool} {k : Nat} (hk : k < xs.length) (hp : p xs[k] = true) (hno : ∀ i, i < k → p (xs.getD i zeroA) = false) : xs.findIdx? p = some k := by
  rw [List.findIdx?_eq_some_iff_getElem]
  exact ⟨hk, hp, fun j hj => by
    have := hno j hj
    rw [getD_at xs _ j (by omega)] at this
    simp [this]⟩
theorem findA_no {xs : List Attr} {p : Attr → Bool} (hno : ∀ i, i < xs.length → p (xs.getD i zeroA) = false) : xs.findIdx? p = none := by
  rw [List.findIdx?_eq_none_iff]
  intro x hx
  obtain ⟨i, hi, rfl⟩ := List.getElem_of_mem hx
  have := hno i hi
  rwa [getD_at xs _ i hi] at this
set_option maxRecDepth 100000 in
set_option maxHeartbeats 4000000 in
theorem refByName_any (lo hi : Nat) (v : Value) (xs : List Attr) (x : List UInt8) (w : World) (hv : Attrs lo hi w v xs) (hhi : hi ≤ w.heap.size) (R : Ending → World → Prop)
    (hR : ∀ w', Below w.heap.size w w' → R (.returned (.tuple #[.agg #[.int .i64 (findA xs (xs.findIdx? (byName x))).id, .string ⟨(findA xs (xs.findIdx? (byName x))).name.toArray⟩, .int .i64 (findA xs (xs.findIdx? (byName x))).type, .bool (findA xs (xs.findIdx? (byName x))).many, .int .i64 (findA xs (xs.findIdx? (byName x))).unique, .bool (findA xs (xs.findIdx? (byName x))).part, .bool (findA xs (xs.findIdx? (byName x))).index], .bool (xs.findIdx? (byName x)).isSome])) w') : Calls Try.prog 18 #[v, .string ⟨x.toArray⟩] w R := by
  have HR := Lib.hid hR
  have Hv := Lib.hid hv
  obtain ⟨ao, cap, rfl, hcl, hcm, -, -⟩ := hv.form
  clear hR hv
  have hB0 := alloc_below w (.cells #[.int .i64 0, .string ⟨#[]⟩, .int .i64 0, .bool false, .int .i64 0, .bool false, .bool false] 24)
  have hz0 := Blk.new w [.int .i64 0, .string ⟨#[]⟩, .int .i64 0, .bool false, .int .i64 0, .bool false, .bool false] 24 rfl
  go_enter Try.func18, Try.ntmps18
  go_upto_region 1 with fail
  generalize w.alloc (.cells #[.int .i64 0, .string ⟨#[]⟩, .int .i64 0, .bool false, .int .i64 0, .bool false, .bool false] 24) = w0 at *
  have hzl := hz0.lt
  have HB0 := Lib.hid hB0
  have Hz0 := Lib.hid hz0
  obtain ⟨z0, z1, z2, z3, z4, z5, z6⟩ := hz0.cells.c7
  have f1 := hz0.free
  obtain ⟨ao', cap', e', -, -, -, hc⟩ := (Sl.below Hv.out Attrs.loc hB0 hhi).form
  injection e' with e1 e2 e3
  subst e1 e3
  have Hc := Lib.hid hc
  clear hB0 hz0 hc
  go_wp2_with fail
  go_loop [6] (fun t6 => ∃ k : Nat, k ≤ xs.length ∧ t6 = .int .i64 k ∧ (∀ i, i < k → byName x (xs.getD i zeroA) = false)) (fun t6 => xs.length - (intOf t6).toNat)
  case atStart => exact ⟨0, Nat.zero_le _, rfl, fun i h => absurd h (Nat.not_lt_zero _)⟩
  case round =>
    obtain ⟨k, hk, rfl, hno⟩ := hrel
    have Hno := Lib.hid hno
    clear hno
    have kk0 : (0 : Int) ≤ (k : Int) := by omega
    by_cases hlt : k < xs.length
    · obtain ⟨b, off, rfl, hb1, hb2, hcc⟩ := Hc.out k hlt
      obtain ⟨cs, _, hcs, rfl⟩ := hcc k hlt
      obtain ⟨h0, h1, h2, h3, h4, h5, h6⟩ := hcs.c7
      have kkl : (k : Int) < (xs.length : Int) := by omega
      have Hx : Hid (xs.getD k zeroA = xs[k]) := Lib.hid (getD_at xs _ k hlt)
      have Hhit : Hid (byName x xs[k] = true → xs.findIdx? (byName x) = some k) := Lib.hid (fun h => findA_hit hlt h Hno.out)
      clear hcs hcc
      generalize xs[k] = y at *
      by_cases he : y.name = x
      · have H2 := HR.out
        rw [Hhit.out (by simp [byName, he])] at H2
        simp only [findA, Option.isSome_some, Hx.out] at H2
        have HR := Lib.hid H2
        clear H2
        have he2 : (y.name == x) = true := by simpa using he
        have He := Lib.hid he
        clear he
        have hr := HR.out (set7 w0 w.heap.size (.int .i64 y.id) (.string ⟨y.name.toArray⟩) (.int .i64 y.type) (.bool y.many) (.int .i64 y.unique) (.bool y.part) (.bool y.index)) (below_set7 HB0.out (Nat.le_refl _) _ _ _ _ _ _ _)
        have hrv := (Blk.set7 Hz0.out (.int .i64 y.id) (.string ⟨y.name.toArray⟩) (.int .i64 y.type) (.bool y.many) (.int .i64 y.unique) (.bool y.part) (.bool y.index)).runAttr
        unfold set7 at hr hrv
        have Hr := Lib.hid hr
        have Hrv := Lib.hid hrv
        clear hr hrv
        go_wp2_with fail
        exact ret_cell_tmp rfl rfl Hrv.out rfl rfl Hr.out
      · have he2 : (y.name == x) = false := by simpa using he
        go_wp2_with fail
        go_round
        case rel => exact ⟨k + 1, by omega, by go_num, fun i hi => by
          by_cases e : i = k
          · subst e; rw [Hx.out]; exact he2
          · exact Hno.out i (by omega)⟩
        case measure => simp [intOf]; omega
    · obtain rfl : k = xs.length := by omega
      have H2 := HR.out
      rw [findA_no Hno.out] at H2
      simp only [findA, Option.isSome_none] at H2
      have HR := Lib.hid H2
      clear H2
      have hr := HR.out (set7 w0 w.heap.size (.int .i64 0) (.string ⟨#[]⟩) (.int .i64 0) (.bool false) (.int .i64 0) (.bool false) (.bool false)) (below_set7 HB0.out (Nat.le_refl _) _ _ _ _ _ _ _)
      have hrv := (Blk.set7 Hz0.out (.int .i64 0) (.string ⟨#[]⟩) (.int .i64 0) (.bool false) (.int .i64 0) (.bool false) (.bool false)).runAttr
      unfold set7 at hr hrv
      have Hr := Lib.hid hr
      have Hrv := Lib.hid hrv
      clear hr hrv
      go_wp2_with fail
      exact ret_cell_tmp rfl rfl Hrv.out rfl rfl Hr.out
set_option maxRecDepth 100000 in
set_option maxHeartbeats 4000000 in
theorem refByID_any (lo hi : Nat) (v : Value) (xs : List Attr) (x : Int) (w : World) (hv : Attrs lo hi w v xs) (hhi : hi ≤ w.heap.size) (R : Ending → World → Prop)
    (hR : ∀ w', Below w.heap.size w w' → R (.returned (.tuple #[.agg #[.int .i64 (findA xs (xs.findIdx? (byID x))).id, .string ⟨(findA xs (xs.findIdx? (byID x))).name.toArray⟩, .int .i64 (findA xs (xs.findIdx? (byID x))).type, .bool (findA xs (xs.findIdx? (byID x))).many, .int .i64 (findA xs (xs.findIdx? (byID x))).unique, .bool (findA xs (xs.findIdx? (byID x))).part, .bool (findA xs (xs.findIdx? (byID x))).index], .bool (xs.findIdx? (byID x)).isSome])) w') : Calls Try.prog 20 #[v, .int .i64 x] w R := by
  have HR := Lib.hid hR
  have Hv := Lib.hid hv
  obtain ⟨ao, cap, rfl, hcl, hcm, -, -⟩ := hv.form
  clear hR hv
  have hB0 := alloc_below w (.cells #[.int .i64 0, .string ⟨#[]⟩, .int .i64 0, .bool false, .int .i64 0, .bool false, .bool false] 24)
  have hz0 := Blk.new w [.int .i64 0, .string ⟨#[]⟩, .int .i64 0, .bool false, .int .i64 0, .bool false, .bool false] 24 rfl
  go_enter Try.func20, Try.ntmps20
  go_upto_region 1 with fail
  generalize w.alloc (.cells #[.int .i64 0, .string ⟨#[]⟩, .int .i64 0, .bool false, .int .i64 0, .bool false, .bool false] 24) = w0 at *
  have hzl := hz0.lt
  have HB0 := Lib.hid hB0
  have Hz0 := Lib.hid hz0
  obtain ⟨z0, z1, z2, z3, z4, z5, z6⟩ := hz0.cells.c7
  have f1 := hz0.free
  obtain ⟨ao', cap', e', -, -, -, hc⟩ := (Sl.below Hv.out Attrs.loc hB0 hhi).form
  injection e' with e1 e2 e3
  subst e1 e3
  have Hc := Lib.hid hc
  clear hB0 hz0 hc
  go_wp2_with fail
  go_loop [6] (fun t6 => ∃ k : Nat, k ≤ xs.length ∧ t6 = .int .i64 k ∧ (∀ i, i < k → byID x (xs.getD i zeroA) = false)) (fun t6 => xs.length - (intOf t6).toNat)
  case atStart => exact ⟨0, Nat.zero_le _, rfl, fun i h => absurd h (Nat.not_lt_zero _)⟩
  case round =>
    obtain ⟨k, hk, rfl, hno⟩ := hrel
    have Hno := Lib.hid hno
    clear hno
    have kk0 : (0 : Int) ≤ (k : Int) := by omega
    by_cases hlt : k < xs.length
    · obtain ⟨b, off, rfl, hb1, hb2, hcc⟩ := Hc.out k hlt
      obtain ⟨cs, _, hcs, rfl⟩ := hcc k hlt
      obtain ⟨h0, h1, h2, h3, h4, h5, h6⟩ := hcs.c7
      have kkl : (k : Int) < (xs.length : Int) := by omega
      have Hx : Hid (xs.getD k zeroA = xs[k]) := Lib.hid (getD_at xs _ k hlt)
      have Hhit : Hid (byID x xs[k] = true → xs.findIdx? (byID x) = some k) := Lib.hid (fun h => findA_hit hlt h Hno.out)
      clear hcs hcc
      generalize xs[k] = y at *
      by_cases he : y.id = x
      · have H2 := HR.out
        rw [Hhit.out (by simp [byID, he])] at H2
        simp only [findA, Option.isSome_some, Hx.out] at H2
        have HR := Lib.hid H2
        clear H2
        have he2 : (y.id == x) = true := by simpa using he
        have He := Lib.hid he
        clear he
        have hr := HR.out (set7 w0 w.heap.size (.int .i64 y.id) (.string ⟨y.name.toArray⟩) (.int .i64 y.type) (.bool y.many) (.int .i64 y.unique) (.bool y.part) (.bool y.index)) (below_set7 HB0.out (Nat.le_refl _) _ _ _ _ _ _ _)
        have hrv := (Blk.set7 Hz0.out (.int .i64 y.id) (.string ⟨y.name.toArray⟩) (.int .i64 y.type) (.bool y.many) (.int .i64 y.unique) (.bool y.part) (.bool y.index)).runAttr
        unfold set7 at hr hrv
        have Hr := Lib.hid hr
        have Hrv := Lib.hid hrv
        clear hr hrv
        go_wp2_with fail
        exact ret_cell_tmp rfl rfl Hrv.out rfl rfl Hr.out
      · have he2 : (y.id == x) = false := by simpa using he
        go_wp2_with fail
        go_round
        case rel => exact ⟨k + 1, by omega, by go_num, fun i hi => by
          by_cases e : i = k
          · subst e; rw [Hx.out]; exact he2
          · exact Hno.out i (by omega)⟩
        case measure => simp [intOf]; omega
    · obtain rfl : k = xs.length := by omega
      have H2 := HR.out
      rw [findA_no Hno.out] at H2
      simp only [findA, Option.isSome_none] at H2
      have HR := Lib.hid H2
      clear H2
      have hr := HR.out (set7 w0 w.heap.size (.int .i64 0) (.string ⟨#[]⟩) (.int .i64 0) (.bool false) (.int .i64 0) (.bool false) (.bool false)) (below_set7 HB0.out (Nat.le_refl _) _ _ _ _ _ _ _)
      have hrv := (Blk.set7 Hz0.out (.int .i64 0) (.string ⟨#[]⟩) (.int .i64 0) (.bool false) (.int .i64 0) (.bool false) (.bool false)).runAttr
      unfold set7 at hr hrv
      have Hr := Lib.hid hr
      have Hrv := Lib.hid hrv
      clear hr hrv
      go_wp2_with fail
      exact ret_cell_tmp rfl rfl Hrv.out rfl rfl Hr.out
set_option maxRecDepth 100000 in
set_option maxHeartbeats 4000000 in
theorem Same_any (lo hi lo2 hi2 : Nat) (v1 v2 : Value) (xs : List Attr) (w : World) (hv : Attrs lo hi w v1 xs) (hv2 : Attrs lo2 hi2 w v2 xs) (hhi : hi ≤ w.heap.size) (hhi2 : hi2 ≤ w.heap.size) (R : Ending → World → Prop)
    (hR : ∀ w', Below w.heap.size w w' → R (.returned (.bool true)) w') : Calls Try.prog 14 #[v1, v2] w R := by
  have HR := Lib.hid hR
  have Hv := Lib.hid hv
  have Hv2 := Lib.hid hv2
  obtain ⟨ao, cap, rfl, hcl, hcm, -, -⟩ := hv.form
  obtain ⟨ao2, cap2, rfl, -, -, -, -⟩ := hv2.form
  clear hR hv hv2
  go_enter Try.func14, Try.ntmps14
  go_wp2_with fail
  go_loopw [5] (fun t5 wr => ∃ k : Nat, k ≤ xs.length ∧ t5 = .int .i64 k ∧ Below w.heap.size w wr) (fun t5 _ => xs.length - (intOf t5).toNat)
  case atStart => exact ⟨0, Nat.zero_le _, rfl, Below.refl _ _⟩
  case round =>
    obtain ⟨k, hk, rfl, hB⟩ := hrel
    obtain ⟨wo, ewo⟩ : ∃ x, x = wr := ⟨_, rfl⟩
    subst ewo
    have HB := Lib.hid hB
    have kk0 : (0 : Int) ≤ (k : Int) := by omega
    by_cases hlt : k < xs.length
    · obtain ⟨a', cp', e', -, -, -, hc⟩ := (Sl.below Hv.out Attrs.loc hB hhi).form
      injection e' with e1 e2 e3
      subst e1 e3
      obtain ⟨a2', cp2', e2', -, -, -, hc2⟩ := (Sl.below Hv2.out Attrs.loc hB hhi2).form
      injection e2' with e4 e5 e6
      subst e4 e6
      obtain ⟨b, off, rfl, hb1, hb2, hcc⟩ := hc k hlt
      obtain ⟨b2, off2, rfl, hb3, hb4, hcc2⟩ := hc2 k hlt
      obtain ⟨cs, _, hcs, rfl⟩ := hcc k hlt
      obtain ⟨cs2, _, hcs2, rfl⟩ := hcc2 k hlt
      obtain ⟨h0, h1, h2, h3, h4, h5, h6⟩ := hcs.c7
      obtain ⟨g0, g1, g2, g3, g4, g5, g6⟩ := hcs2.c7
      have kkl : (k : Int) < (xs.length : Int) := by omega
      clear hcs hcs2 hcc hcc2 hc hc2 hB
      generalize xs[k] = x at *
      go_upto_region 6 with fail
      refine wp_region_held_drew (S := fun w' => w' = wo.drew) (by kernel_rfl) rfl (fun hHeld => ?_)
      refine wpAnyH_take (i := 0) (v := .slice (some ⟨b, off, none⟩) xs.length cap) rfl (by kernel_rfl) (by kernel_rfl) (by kernel_rfl) (fun _ _ _ h => h) (Or.inl ⟨by rfl, ?_⟩) hHeld ?_
      · intro w' hSw; subst hSw; go_simp <;> omega
      try simp only [Act.put, List.getElem_toArray, List.getElem_cons_succ, List.getElem_cons_zero, List.setIfInBounds_toArray, List.set_cons_zero, List.set_cons_succ]
      refine wpAnyH_take (i := 1) (v := .int .i64 ((k : Int))) rfl (by kernel_rfl) (by kernel_rfl) (by kernel_rfl) (fun _ _ _ h => h) (Or.inl ⟨by rfl, ?_⟩) hHeld ?_
      · intro w' hSw; subst hSw; go_simp <;> omega
      try simp only [Act.put, List.getElem_toArray, List.getElem_cons_succ, List.getElem_cons_zero, List.setIfInBounds_toArray, List.set_cons_zero, List.set_cons_succ]
      refine wpAnyH_take (i := 2) (v := .pointer (some ⟨b, off + k * 7, none⟩)) rfl (by kernel_rfl) (by kernel_rfl) (by kernel_rfl) (fun _ _ _ h => h) (Or.inl ⟨by rfl, ?_⟩) hHeld ?_
      · intro w' hSw; subst hSw; go_simp <;> omega
      try simp only [Act.put, List.getElem_toArray, List.getElem_cons_succ, List.getElem_cons_zero, List.setIfInBounds_toArray, List.set_cons_zero, List.set_cons_succ]
      refine wpAnyH_take (i := 3) (v := .agg #[.int .i64 (x.id), .string ⟨x.name.toArray⟩, .int .i64 (x.type), .bool x.many, .int .i64 (x.unique), .bool x.part, .bool x.index]) rfl (by kernel_rfl) (by kernel_rfl) (by kernel_rfl) (fun _ _ _ h => h) (Or.inl ⟨by rfl, ?_⟩) hHeld ?_
      · intro w' hSw; subst hSw; have k0 := h0; have k1 := h1; have k2 := h2; have k3 := h3; have k4 := h4; have k5 := h5; have k6 := h6; go_simp
      try simp only [Act.put, List.getElem_toArray, List.getElem_cons_succ, List.getElem_cons_zero, List.setIfInBounds_toArray, List.set_cons_zero, List.set_cons_succ]
      refine wpAnyH_take (i := 4) (v := .slice (some ⟨b2, off2, none⟩) xs.length cap2) rfl (by kernel_rfl) (by kernel_rfl) (by kernel_rfl) (fun _ _ _ h => h) (Or.inl ⟨by rfl, ?_⟩) hHeld ?_
      · intro w' hSw; subst hSw; go_simp <;> omega
      try simp only [Act.put, List.getElem_toArray, List.getElem_cons_succ, List.getElem_cons_zero, List.setIfInBounds_toArray, List.set_cons_zero, List.set_cons_succ]
      refine wpAnyH_take (i := 5) (v := .int .i64 ((k : Int))) rfl (by kernel_rfl) (by kernel_rfl) (by kernel_rfl) (fun _ _ _ h => h) (Or.inl ⟨by rfl, ?_⟩) hHeld ?_
      · intro w' hSw; subst hSw; go_simp <;> omega
      try simp only [Act.put, List.getElem_toArray, List.getElem_cons_succ, List.getElem_cons_zero, List.setIfInBounds_toArray, List.set_cons_zero, List.set_cons_succ]
      refine wpAnyH_take (i := 6) (v := .pointer (some ⟨b2, off2 + k * 7, none⟩)) rfl (by kernel_rfl) (by kernel_rfl) (by kernel_rfl) (fun _ _ _ h => h) (Or.inl ⟨by rfl, ?_⟩) hHeld ?_
      · intro w' hSw; subst hSw; go_simp <;> omega
      try simp only [Act.put, List.getElem_toArray, List.getElem_cons_succ, List.getElem_cons_zero, List.setIfInBounds_toArray, List.set_cons_zero, List.set_cons_succ]
      refine wpAnyH_take (i := 7) (v := .agg #[.int .i64 (x.id), .string ⟨x.name.toArray⟩, .int .i64 (x.type), .bool x.many, .int .i64 (x.unique), .bool x.part, .bool x.index]) rfl (by kernel_rfl) (by kernel_rfl) (by kernel_rfl) (fun _ _ _ h => h) (Or.inl ⟨by rfl, ?_⟩) hHeld ?_
      · intro w' hSw; subst hSw; have k0 := g0; have k1 := g1; have k2 := g2; have k3 := g3; have k4 := g4; have k5 := g5; have k6 := g6; go_simp
      try simp only [Act.put, List.getElem_toArray, List.getElem_cons_succ, List.getElem_cons_zero, List.setIfInBounds_toArray, List.set_cons_zero, List.set_cons_succ]
      refine wpAnyH_take (i := 8) (v := .bool false) rfl (by kernel_rfl) (by kernel_rfl) (by kernel_rfl) (fun _ _ _ h => h) (Or.inl ⟨by rfl, ?_⟩) hHeld ?_
      · intro w' hSw; subst hSw; go_simp
      try simp only [Act.put, List.getElem_toArray, List.getElem_cons_succ, List.getElem_cons_zero, List.setIfInBounds_toArray, List.set_cons_zero, List.set_cons_succ]
      refine wpAnyH_done (by kernel_rfl) ?_ _
      clear hHeld
      go_wp2_with fail
      go_roundw
      case rel => exact ⟨k + 1, by omega, by go_num, HB.out.drew⟩
      case measure => simp [intOf]; omega
    · obtain rfl : k = xs.length := by omega
      have hr := HR.out wo HB.out
      clear hB
      go_wp2_with fail
      first | exact hr | exact fin hr rfl
end Go.Proofs.Ytkcpanaojehgiaa
