/- disk.torn, disk.Dirty: the walks. (Printed by diskto.py.) -/
import Derived.Test.YtfmpafheodpfoaaDiskFl
import Derived.Laws.IdiomCopy
namespace Go.Proofs.Ytfmpafheodpfoaa
open Go.RowKit Go.Shelf
set_option linter.unusedVariables false
set_option linter.unusedSimpArgs false

def atN (at' : Int) : Nat := (max 0 (min at' 128)).toNat
def tornP (a b : List UInt8) (at' : Int) : List UInt8 := a.take (atN at') ++ b.drop (atN at')
theorem atN_le (at' : Int) : atN at' ≤ 128 := by simp only [atN]; omega
theorem tornP_length (a b : List UInt8) (at' : Int) (ha : a.length = 128) (hb : b.length = 128) : (tornP a b at').length = 128 := by
  have := atN_le at'
  simp [tornP, ha, hb]; omega
theorem secE_app (x y : List UInt8) : secE (x ++ y) = secE x ++ secE y := by simp [secE, List.flatMap_append]
theorem execCopy {P : Program} {o : Oper} {ρ : Operand → Value} {w : World} {s x : Operand} {t tx : TypeId} {v' : Value} {w' : World} {sv xv : Value}
    (hrun : (Builtin.copy_ #[t, tx] o.type #[sv, xv]).run P w = .ok v' w') (ho : o.op = .call { callee := .builtin .copy, args := #[s, x], argTypes := #[t, tx] }) (hs : ρ s = sv) (hx : ρ x = xv) : (execOp ρ o).run P w = .ok (.value v') w' := by
  unfold execOp
  simp only [ho, resolve, invoke, builtin, Sem.run_bind, Sem.run_pure, Result.andThen_ok, List.map_toArray, List.map_cons, List.map_nil, hs, hx, hrun]
theorem blk_head {w : World} {b : Nat} {t : TypeId} {x y : List UInt8} (h : Blk w b (secE y) t) (hl : x.length ≤ y.length) : Blk (w.setCells b 0 (secE x)) b (secE (x ++ y.drop x.length)) t := by
  have h1 := blk_setCells (secE x) 0 w (secE y) h
  have h2 := spl_mid (secE x) [] (secE (y.take x.length)) (secE (y.drop x.length)) (by rw [secE_length, secE_length, List.length_take]; omega)
  rw [List.nil_append, List.nil_append, List.length_nil, ← secE_app, List.take_append_drop, ← secE_app] at h2
  rwa [h2] at h1
theorem copyS (w : World) (b a : Nat) (x : List UInt8) (n : Nat) (y : List UInt8) (ty : TypeId) (hx : CellsAt w a 0 (secE y)) (hn : n ≤ y.length) (hb : ∀ j, j < n → (w.cell? ⟨b, j, none⟩).isSome = true) (hf : ∀ j, w.frozen? ⟨b, j, none⟩ = false) (h : x = y.take n) :
    (Builtin.copy_ #[30, 30] ty #[.slice (some ⟨b, 0, none⟩) n 128, .slice (some ⟨a, 0, none⟩) n 128]).run Try.prog w = .ok (goInt (secE x).length) (w.setCells b 0 (secE x)) := by
  subst h
  have hl : (secE (y.take n)).length = n := by rw [secE_length, List.length_take]; omega
  refine run_copy_cells w _ _ _ _ _ _ _ _ _ _ _ _ Try.underlying30 (by kernel_rfl) (by rw [hl]; exact (Nat.min_self n).symm) (fun j v hv => ?_) (fun j hj => ?_) (fun j hj => ?_) (fun v hv => ?_)
  · have h1 : (secE y)[j]? = some v := by
      rw [secE, flatMap_bE] at hv ⊢
      rw [List.getElem?_map] at hv ⊢
      rw [List.getElem?_take] at hv
      split at hv
      · exact hv
      · cases hv
    rw [Addr.add_lit]
    exact hx j v h1
  · rw [hl] at hj; rw [Nat.zero_add]; exact hb j hj
  · rw [Nat.zero_add]; exact hf j
  · rw [secE, flatMap_bE] at hv
    obtain ⟨c, -, rfl⟩ := List.mem_map.1 hv
    rfl

set_option maxRecDepth 100000 in
set_option maxHeartbeats 8000000 in
theorem torn_any (a b : List UInt8) (ha : a.length = 128) (hb : b.length = 128) (at' : Int) (w : World) (R : Ending → World → Prop)
    (hR : ∀ w', Below w.heap.size w w' → R (.returned (.agg (secE (tornP a b at')).toArray)) w') : Calls Try.prog 35 #[.agg (secE a).toArray, .agg (secE b).toArray, .int .i64 at'] w R := by
  have hzv := zeroS_run
  have hB : Below w.heap.size w (((w.alloc (.cells (secE a).toArray 73)).alloc (.cells (secE b).toArray 73)).alloc (.cells (secE zeroS).toArray 73)) := (((Below.refl _ _).alloc (Nat.le_refl _) _).alloc (by simp) _).alloc (by simp; omega) _
  have hba : Blk (((w.alloc (.cells (secE a).toArray 73)).alloc (.cells (secE b).toArray 73)).alloc (.cells (secE zeroS).toArray 73)) w.heap.size (secE a) 73 := ((Blk.new w (secE a) 73 rfl).alloc _).alloc _
  have hbb : Blk (((w.alloc (.cells (secE a).toArray 73)).alloc (.cells (secE b).toArray 73)).alloc (.cells (secE zeroS).toArray 73)) (w.heap.size + 1) (secE b) 73 := (Blk.new _ (secE b) 73 (by simp)).alloc _
  have hbz : Blk (((w.alloc (.cells (secE a).toArray 73)).alloc (.cells (secE b).toArray 73)).alloc (.cells (secE zeroS).toArray 73)) (w.heap.size + 1 + 1) (secE zeroS) 73 := Blk.new _ (secE zeroS) 73 (by simp)
  have HR := Lib.hid hR
  have Hba := Lib.hid hba
  have Hbb := Lib.hid hbb
  have Hbz := Lib.hid hbz
  clear hR hba hbb hbz
  by_cases h1 : 128 < at'
  · have eN : atN at' = 128 := by simp only [atN]; omega
    go_enter Try.func35, Try.ntmps35
    go_wp2_with fail
    generalize (((w.alloc (.cells (secE a).toArray 73)).alloc (.cells (secE b).toArray 73)).alloc (.cells (secE zeroS).toArray 73)) = w3 at *
    refine wp_region_held_drew (S := fun _ => True) (by kernel_rfl) trivial (fun hHeld => ?_)
    refine wpAnyH_take (i := 0) (v := .int .i64 128) rfl (by kernel_rfl) (by kernel_rfl) (by kernel_rfl) (fun _ _ _ h => h) (Or.inl ⟨by rfl, ?_⟩) hHeld ?_
    · intro w' hSw; go_simp
    try simp only [Act.put, List.getElem_toArray, List.getElem_cons_succ, List.getElem_cons_zero, List.setIfInBounds_toArray, List.set_cons_zero, List.set_cons_succ]
    refine wpAnyH_take (i := 1) (v := .slice (some ⟨w.heap.size + 1, 0, none⟩) 128 128) rfl (by kernel_rfl) (by kernel_rfl) (by kernel_rfl) (fun _ _ _ h => h) (Or.inl ⟨by rfl, ?_⟩) hHeld ?_
    · intro w' hSw; go_simp
    try simp only [Act.put, List.getElem_toArray, List.getElem_cons_succ, List.getElem_cons_zero, List.setIfInBounds_toArray, List.set_cons_zero, List.set_cons_succ]
    refine wpAnyH_take (i := 2) (v := .int .i64 128) rfl (by kernel_rfl) (by kernel_rfl) (by kernel_rfl) (fun _ _ _ h => h) (Or.inl ⟨by rfl, ?_⟩) hHeld ?_
    · intro w' hSw; go_simp
    try simp only [Act.put, List.getElem_toArray, List.getElem_cons_succ, List.getElem_cons_zero, List.setIfInBounds_toArray, List.set_cons_zero, List.set_cons_succ]
    refine wpAnyH_take (i := 3) (v := .slice (some ⟨w.heap.size, 0, none⟩) 128 128) rfl (by kernel_rfl) (by kernel_rfl) (by kernel_rfl) (fun _ _ _ h => h) (Or.inl ⟨by rfl, ?_⟩) hHeld ?_
    · intro w' hSw; go_simp
    try simp only [Act.put, List.getElem_toArray, List.getElem_cons_succ, List.getElem_cons_zero, List.setIfInBounds_toArray, List.set_cons_zero, List.set_cons_succ]
    have hcp := copyS w3.drew (w.heap.size + 1) w.heap.size (a.take 128) 128 a 3 Hba.out.cells (by rw [ha]; omega) (fun j hj => by
      have := Hbb.out.cells j ((secE b)[j]'(by rw [secE_length]; omega)) (List.getElem?_eq_getElem _)
      rw [Nat.zero_add] at this
      rw [show w3.drew.cell? ⟨w.heap.size + 1, j, none⟩ = w3.cell? ⟨w.heap.size + 1, j, none⟩ from rfl, this]; rfl) Hbb.out.free rfl
    refine wpAnyH_ready (rs := [4]) (by kernel_rfl) (by simp) ?_
    refine allVal rfl (by kernel_rfl) (execCopy hcp rfl (by kernel_rfl) (by kernel_rfl)) trivial ?_ AllReadyH.nil
    try simp only [Act.put, List.getElem_toArray, List.getElem_cons_succ, List.getElem_cons_zero, List.setIfInBounds_toArray, List.set_cons_zero, List.set_cons_succ]
    refine wpAnyH_done (by kernel_rfl) ?_ _
    have ht : (a.take 128).length = 128 := by rw [List.length_take]; omega
    have hbb := blk_head (x := a.take 128) (w := w3.drew) (b := w.heap.size + 1) (t := 73) (y := b) Hbb.out (by omega)
    rw [ht, show a.take 128 ++ b.drop 128 = tornP a b at' by simp [tornP, eN]] at hbb
    have hbz : Blk (w3.drew.setCells (w.heap.size + 1) 0 (secE (a.take 128))) (w.heap.size + 1 + 1) (secE zeroS) 73 := (Only.setCells (A := (· = w.heap.size + 1)) w3.drew rfl 0 _).blk (show Blk w3.drew _ _ _ from Hbz.out) (by omega)
    have hB4 : Below w.heap.size w (w3.drew.setCells (w.heap.size + 1) 0 (secE (a.take 128))) := belowSetCells (hB.trans (show Below w.heap.size w3 w3.drew from ⟨rfl, rfl, rfl, Nat.le_refl _, fun _ _ => rfl⟩)) (by omega) _ _
    generalize w3.drew.setCells (w.heap.size + 1) 0 (secE (a.take 128)) = w4 at *
    have hz0 : zeroS.length = 128 := by simp [zeroS]
    have hl := tornP_length a b at' ha hb
    have hcs := hbb.cells
    have hth := there_sec hbz.cells hz0 hbz.free
    have hbl := blk_set1 hbz hz0 (tornP a b at') hl
    have hrv := runVarS hbl.cells hl
    have hr := HR.out _ (belowSetCells hB4 (b := w.heap.size + 1 + 1) (by omega) 0 (secE (tornP a b at')))
    generalize tornP a b at' = s at *
    clear hcp hbb hbz hbl Hba Hbb Hbz HR hB hB4 ht hHeld
    go_wp2_with (first | refine atLoadS rfl rfl rfl (by assumption) (by assumption) ?_ | refine atStoreS rfl rfl rfl rfl (by assumption) (by assumption) ?_)
    all_goals exact ret_cell rfl rfl hrv rfl hr
  · by_cases h2 : 0 < at'
    · obtain ⟨n, rfl⟩ := Int.eq_ofNat_of_zero_le (Int.le_of_lt h2)
      have eN : atN (n : Int) = n := by simp only [atN]; omega
      have hn : n ≤ 128 := by omega
      go_enter Try.func35, Try.ntmps35
      go_wp2_with fail
      generalize (((w.alloc (.cells (secE a).toArray 73)).alloc (.cells (secE b).toArray 73)).alloc (.cells (secE zeroS).toArray 73)) = w3 at *
      refine wp_region_held_drew (S := fun _ => True) (by kernel_rfl) trivial (fun hHeld => ?_)
      refine wpAnyH_take (i := 0) (v := .int .i64 n) rfl (by kernel_rfl) (by kernel_rfl) (by kernel_rfl) (fun _ _ _ h => h) (Or.inl ⟨by rfl, ?_⟩) hHeld ?_
      · intro w' hSw; go_simp
      try simp only [Act.put, List.getElem_toArray, List.getElem_cons_succ, List.getElem_cons_zero, List.setIfInBounds_toArray, List.set_cons_zero, List.set_cons_succ]
      refine wpAnyH_take (i := 1) (v := .slice (some ⟨w.heap.size + 1, 0, none⟩) n 128) rfl (by kernel_rfl) (by kernel_rfl) (by kernel_rfl) (fun _ _ _ h => h) (Or.inl ⟨by rfl, ?_⟩) hHeld ?_
      · intro w' hSw; go_simp
      try simp only [Act.put, List.getElem_toArray, List.getElem_cons_succ, List.getElem_cons_zero, List.setIfInBounds_toArray, List.set_cons_zero, List.set_cons_succ]
      refine wpAnyH_take (i := 2) (v := .int .i64 n) rfl (by kernel_rfl) (by kernel_rfl) (by kernel_rfl) (fun _ _ _ h => h) (Or.inl ⟨by rfl, ?_⟩) hHeld ?_
      · intro w' hSw; go_simp
      try simp only [Act.put, List.getElem_toArray, List.getElem_cons_succ, List.getElem_cons_zero, List.setIfInBounds_toArray, List.set_cons_zero, List.set_cons_succ]
      refine wpAnyH_take (i := 3) (v := .slice (some ⟨w.heap.size, 0, none⟩) n 128) rfl (by kernel_rfl) (by kernel_rfl) (by kernel_rfl) (fun _ _ _ h => h) (Or.inl ⟨by rfl, ?_⟩) hHeld ?_
      · intro w' hSw; go_simp
      try simp only [Act.put, List.getElem_toArray, List.getElem_cons_succ, List.getElem_cons_zero, List.setIfInBounds_toArray, List.set_cons_zero, List.set_cons_succ]
      have hcp := copyS w3.drew (w.heap.size + 1) w.heap.size (a.take n) n a 3 Hba.out.cells (by rw [ha]; omega) (fun j hj => by
        have := Hbb.out.cells j ((secE b)[j]'(by rw [secE_length]; omega)) (List.getElem?_eq_getElem _)
        rw [Nat.zero_add] at this
        rw [show w3.drew.cell? ⟨w.heap.size + 1, j, none⟩ = w3.cell? ⟨w.heap.size + 1, j, none⟩ from rfl, this]; rfl) Hbb.out.free rfl
      refine wpAnyH_ready (rs := [4]) (by kernel_rfl) (by simp) ?_
      refine allVal rfl (by kernel_rfl) (execCopy hcp rfl (by kernel_rfl) (by kernel_rfl)) trivial ?_ AllReadyH.nil
      try simp only [Act.put, List.getElem_toArray, List.getElem_cons_succ, List.getElem_cons_zero, List.setIfInBounds_toArray, List.set_cons_zero, List.set_cons_succ]
      refine wpAnyH_done (by kernel_rfl) ?_ _
      have ht : (a.take n).length = n := by rw [List.length_take]; omega
      have hbb := blk_head (x := a.take n) (w := w3.drew) (b := w.heap.size + 1) (t := 73) (y := b) Hbb.out (by omega)
      rw [ht, show a.take n ++ b.drop n = tornP a b (n : Int) by simp [tornP, eN]] at hbb
      have hbz : Blk (w3.drew.setCells (w.heap.size + 1) 0 (secE (a.take n))) (w.heap.size + 1 + 1) (secE zeroS) 73 := (Only.setCells (A := (· = w.heap.size + 1)) w3.drew rfl 0 _).blk (show Blk w3.drew _ _ _ from Hbz.out) (by omega)
      have hB4 : Below w.heap.size w (w3.drew.setCells (w.heap.size + 1) 0 (secE (a.take n))) := belowSetCells (hB.trans (show Below w.heap.size w3 w3.drew from ⟨rfl, rfl, rfl, Nat.le_refl _, fun _ _ => rfl⟩)) (by omega) _ _
      generalize w3.drew.setCells (w.heap.size + 1) 0 (secE (a.take n)) = w4 at *
      have hz0 : zeroS.length = 128 := by simp [zeroS]
      have hl := tornP_length a b (n : Int) ha hb
      have hcs := hbb.cells
      have hth := there_sec hbz.cells hz0 hbz.free
      have hbl := blk_set1 hbz hz0 (tornP a b (n : Int)) hl
      have hrv := runVarS hbl.cells hl
      have hr := HR.out _ (belowSetCells hB4 (b := w.heap.size + 1 + 1) (by omega) 0 (secE (tornP a b (n : Int))))
      generalize tornP a b (n : Int) = s at *
      clear hcp hbb hbz hbl Hba Hbb Hbz HR hB hB4 ht hHeld
      go_wp2_with (first | refine atLoadS rfl rfl rfl (by assumption) (by assumption) ?_ | refine atStoreS rfl rfl rfl rfl (by assumption) (by assumption) ?_)
      all_goals exact ret_cell rfl rfl hrv rfl hr
    · have eN : atN at' = 0 := by simp only [atN]; omega
      go_enter Try.func35, Try.ntmps35
      go_wp2_with fail
      generalize (((w.alloc (.cells (secE a).toArray 73)).alloc (.cells (secE b).toArray 73)).alloc (.cells (secE zeroS).toArray 73)) = w3 at *
      refine wp_region_held_drew (S := fun _ => True) (by kernel_rfl) trivial (fun hHeld => ?_)
      refine wpAnyH_take (i := 0) (v := .int .i64 0) rfl (by kernel_rfl) (by kernel_rfl) (by kernel_rfl) (fun _ _ _ h => h) (Or.inl ⟨by rfl, ?_⟩) hHeld ?_
      · intro w' hSw; go_simp
      try simp only [Act.put, List.getElem_toArray, List.getElem_cons_succ, List.getElem_cons_zero, List.setIfInBounds_toArray, List.set_cons_zero, List.set_cons_succ]
      refine wpAnyH_take (i := 1) (v := .slice (some ⟨w.heap.size + 1, 0, none⟩) 0 128) rfl (by kernel_rfl) (by kernel_rfl) (by kernel_rfl) (fun _ _ _ h => h) (Or.inl ⟨by rfl, ?_⟩) hHeld ?_
      · intro w' hSw; go_simp
      try simp only [Act.put, List.getElem_toArray, List.getElem_cons_succ, List.getElem_cons_zero, List.setIfInBounds_toArray, List.set_cons_zero, List.set_cons_succ]
      refine wpAnyH_take (i := 2) (v := .int .i64 0) rfl (by kernel_rfl) (by kernel_rfl) (by kernel_rfl) (fun _ _ _ h => h) (Or.inl ⟨by rfl, ?_⟩) hHeld ?_
      · intro w' hSw; go_simp
      try simp only [Act.put, List.getElem_toArray, List.getElem_cons_succ, List.getElem_cons_zero, List.setIfInBounds_toArray, List.set_cons_zero, List.set_cons_succ]
      refine wpAnyH_take (i := 3) (v := .slice (some ⟨w.heap.size, 0, none⟩) 0 128) rfl (by kernel_rfl) (by kernel_rfl) (by kernel_rfl) (fun _ _ _ h => h) (Or.inl ⟨by rfl, ?_⟩) hHeld ?_
      · intro w' hSw; go_simp
      try simp only [Act.put, List.getElem_toArray, List.getElem_cons_succ, List.getElem_cons_zero, List.setIfInBounds_toArray, List.set_cons_zero, List.set_cons_succ]
      have hcp := copyS w3.drew (w.heap.size + 1) w.heap.size (a.take 0) 0 a 3 Hba.out.cells (by rw [ha]; omega) (fun j hj => by
        have := Hbb.out.cells j ((secE b)[j]'(by rw [secE_length]; omega)) (List.getElem?_eq_getElem _)
        rw [Nat.zero_add] at this
        rw [show w3.drew.cell? ⟨w.heap.size + 1, j, none⟩ = w3.cell? ⟨w.heap.size + 1, j, none⟩ from rfl, this]; rfl) Hbb.out.free rfl
      refine wpAnyH_ready (rs := [4]) (by kernel_rfl) (by simp) ?_
      refine allVal rfl (by kernel_rfl) (execCopy hcp rfl (by kernel_rfl) (by kernel_rfl)) trivial ?_ AllReadyH.nil
      try simp only [Act.put, List.getElem_toArray, List.getElem_cons_succ, List.getElem_cons_zero, List.setIfInBounds_toArray, List.set_cons_zero, List.set_cons_succ]
      refine wpAnyH_done (by kernel_rfl) ?_ _
      have ht : (a.take 0).length = 0 := by rw [List.length_take]; omega
      have hbb := blk_head (x := a.take 0) (w := w3.drew) (b := w.heap.size + 1) (t := 73) (y := b) Hbb.out (by omega)
      rw [ht, show a.take 0 ++ b.drop 0 = tornP a b at' by simp [tornP, eN]] at hbb
      have hbz : Blk (w3.drew.setCells (w.heap.size + 1) 0 (secE (a.take 0))) (w.heap.size + 1 + 1) (secE zeroS) 73 := (Only.setCells (A := (· = w.heap.size + 1)) w3.drew rfl 0 _).blk (show Blk w3.drew _ _ _ from Hbz.out) (by omega)
      have hB4 : Below w.heap.size w (w3.drew.setCells (w.heap.size + 1) 0 (secE (a.take 0))) := belowSetCells (hB.trans (show Below w.heap.size w3 w3.drew from ⟨rfl, rfl, rfl, Nat.le_refl _, fun _ _ => rfl⟩)) (by omega) _ _
      generalize w3.drew.setCells (w.heap.size + 1) 0 (secE (a.take 0)) = w4 at *
      have hz0 : zeroS.length = 128 := by simp [zeroS]
      have hl := tornP_length a b at' ha hb
      have hcs := hbb.cells
      have hth := there_sec hbz.cells hz0 hbz.free
      have hbl := blk_set1 hbz hz0 (tornP a b at') hl
      have hrv := runVarS hbl.cells hl
      have hr := HR.out _ (belowSetCells hB4 (b := w.heap.size + 1 + 1) (by omega) 0 (secE (tornP a b at')))
      generalize tornP a b at' = s at *
      clear hcp hbb hbz hbl Hba Hbb Hbz HR hB hB4 ht hHeld
      go_wp2_with (first | refine atLoadS rfl rfl rfl (by assumption) (by assumption) ?_ | refine atStoreS rfl rfl rfl rfl (by assumption) (by assumption) ?_)
      all_goals exact ret_cell rfl rfl hrv rfl hr
end Go.Proofs.Ytfmpafheodpfoaa
