/- May facts be? The code's and the document's answers. (Printed by schb.py.) -/
import Derived.Test.YtkcpanaojehgiaaSchA
namespace Go.Proofs.Ytkcpanaojehgiaa
open Go.RowKit
set_option linter.unusedVariables false
set_option linter.unusedSimpArgs false

theorem may_false1 {x : Ft} (h : mayD x.e x.a x.v = false) : x.may = false := by unfold Ft.may; rw [h]; rfl
theorem may_false2 {x : Ft} (h : x.sp.length = 0) : x.may = false := by
  unfold Ft.may
  rw [List.eq_nil_of_length_eq_zero h, show (!([] : List Sp).isEmpty) = false from rfl, Bool.and_false, Bool.false_and]
theorem may_set {x : Ft} (h : mayD x.e x.a x.v = true) (hl : 0 < x.sp.length) : x.may = setB x.sp := by
  unfold Ft.may
  have e : x.sp.isEmpty = false := by
    cases hs : x.sp with
    | nil => rw [hs] at hl; simp at hl
    | cons a b => rfl
  rw [h, e]
  simp
set_option maxRecDepth 100000 in
set_option maxHeartbeats 2000000 in
theorem fmay_any (lo hi : Nat) (x : Ft) (sv : Value) (w : World) (hs : Spans lo hi w sv x.sp) (hhi : hi ≤ w.heap.size) (hl : x.v.s.length ≤ 9223372036854775807) (R : Ending → World → Prop) (hR : ∀ w', Below w.heap.size w w' → R (.returned (.bool x.may)) w') :
    Calls Try.prog 67 #[.agg #[.int .i64 x.e, .int .i64 x.a, .int .i64 x.v.kind, .int .i64 x.v.n, .string ⟨x.v.s.toArray⟩, sv]] w R := by
  have HR := Lib.hid hR
  have Hs := Lib.hid hs
  obtain ⟨ao, cap, rfl, -, -, -, -⟩ := hs.form
  clear hR hs
  have hB1 := alloc_below w (.cells #[.int .i64 x.e, .int .i64 x.a, .int .i64 x.v.kind, .int .i64 x.v.n, .string ⟨x.v.s.toArray⟩, .slice ao x.sp.length cap] 49)
  have hb := Blk.new w [.int .i64 x.e, .int .i64 x.a, .int .i64 x.v.kind, .int .i64 x.v.n, .string ⟨x.v.s.toArray⟩, .slice ao x.sp.length cap] 49 rfl
  go_enter Try.func67, Try.ntmps67
  go_upto_region 1 with fail
  generalize w.alloc (.cells #[.int .i64 x.e, .int .i64 x.a, .int .i64 x.v.kind, .int .i64 x.v.n, .string ⟨x.v.s.toArray⟩, .slice ao x.sp.length cap] 49) = w1 at *
  obtain ⟨y0, y1, y2, y3, y4, y5⟩ := hb.cells.f6
  have hb1 := hb.lt
  have hB2 := alloc_below w1 (.cells #[.int .i64 x.e, .int .i64 x.a, .int .i64 x.v.kind, .int .i64 x.v.n, .string ⟨x.v.s.toArray⟩, .int .i64 1, .bool false, .int .i64 0, .int .i64 1] 86)
  have hd := Blk.new w1 [.int .i64 x.e, .int .i64 x.a, .int .i64 x.v.kind, .int .i64 x.v.n, .string ⟨x.v.s.toArray⟩, .int .i64 1, .bool false, .int .i64 0, .int .i64 1] 86 rfl
  go_upto_region 2 with fail
  generalize w1.alloc (.cells #[.int .i64 x.e, .int .i64 x.a, .int .i64 x.v.kind, .int .i64 x.v.n, .string ⟨x.v.s.toArray⟩, .int .i64 1, .bool false, .int .i64 0, .int .i64 1] 86) = w2 at *
  obtain ⟨d0, d1, d2, d3, d4, d5, d6, d7, d8⟩ := hd.cells.c9
  clear y0 y1 y2 y3 y4 y5
  have hb2 := hb.below hB2 hb1
  have HB2 := Lib.hid (hB1.trans (hB2.mono hB1.size))
  clear hd hB2 hB1 hb
  go_wp2_with fail
  refine dCheck_any x.e x.a x.v w2 hl _ (fun w3 hB3 => ?_)
  obtain ⟨y0, y1, y2, y3, y4, y5⟩ := (hb2.below hB3 hb2.lt).cells.f6
  have hB := HB2.out.trans (hB3.mono HB2.out.size)
  clear d0 d1 d2 d3 d4 d5 d6 d7 d8 hB3 hb2
  cases hm : mayD x.e x.a x.v
  · have hr := HR.out w3 hB
    rw [may_false1 hm] at hr
    clear hB
    go_wp2_with fail
    first | exact hr | exact fin hr rfl
  by_cases h0 : x.sp.length = 0
  · have hr := HR.out w3 hB
    rw [may_false2 h0] at hr
    have k0 : ¬ (0 : Int) < (x.sp.length : Int) := by omega
    clear hB
    go_wp2_with fail
    first | exact hr | exact fin hr rfl
  have k0 : (0 : Int) < (x.sp.length : Int) := by omega
  have hr := fun w4 (h : Below w3.heap.size w3 w4) => HR.out w4 (hB.trans (h.mono hB.size))
  rw [may_set hm (by omega)] at hr
  have Hr := Lib.hid hr
  have Hs3 := Lib.hid (Sl.below Hs.out Sp.loc hB hhi)
  have hh3 : hi ≤ w3.heap.size := Nat.le_trans hhi hB.size
  clear hr hB h0
  go_wp2_with fail
  refine spanCheck_any lo hi _ _ w3 Hs3.out hh3 _ (fun w4 hB4 => ?_)
  have hr := Hr.out w4 hB4
  clear hB4
  cases hq : setB x.sp
  · rw [hq] at hr
    go_wp2_with fail
    first | exact hr | exact fin hr rfl
  · rw [hq] at hr
    go_wp2_with fail
    first | exact hr | exact fin hr rfl
set_option maxRecDepth 100000 in
set_option maxHeartbeats 4000000 in
theorem fcompare_any (x y : Ft) (sv tv : Value) (w : World) (R : Ending → World → Prop) (hR : ∀ w', Below w.heap.size w w' → R (.returned (.int .i64 (cmpF x y))) w') :
    Calls Try.prog 68 #[.agg #[.int .i64 x.e, .int .i64 x.a, .int .i64 x.v.kind, .int .i64 x.v.n, .string ⟨x.v.s.toArray⟩, sv], .agg #[.int .i64 y.e, .int .i64 y.a, .int .i64 y.v.kind, .int .i64 y.v.n, .string ⟨y.v.s.toArray⟩, tv]] w R := by
  have HR := Lib.hid hR
  clear hR
  have hBa := alloc_below w (.cells #[.int .i64 x.e, .int .i64 x.a, .int .i64 x.v.kind, .int .i64 x.v.n, .string ⟨x.v.s.toArray⟩, sv] 49)
  have ha := Blk.new w [.int .i64 x.e, .int .i64 x.a, .int .i64 x.v.kind, .int .i64 x.v.n, .string ⟨x.v.s.toArray⟩, sv] 49 rfl
  have hsz : (w.alloc (.cells #[.int .i64 x.e, .int .i64 x.a, .int .i64 x.v.kind, .int .i64 x.v.n, .string ⟨x.v.s.toArray⟩, sv] 49)).heap.size = w.heap.size + 1 := by simp
  have hBb := alloc_below (w.alloc (.cells #[.int .i64 x.e, .int .i64 x.a, .int .i64 x.v.kind, .int .i64 x.v.n, .string ⟨x.v.s.toArray⟩, sv] 49)) (.cells #[.int .i64 y.e, .int .i64 y.a, .int .i64 y.v.kind, .int .i64 y.v.n, .string ⟨y.v.s.toArray⟩, tv] 49)
  have hb := Blk.new (w.alloc (.cells #[.int .i64 x.e, .int .i64 x.a, .int .i64 x.v.kind, .int .i64 x.v.n, .string ⟨x.v.s.toArray⟩, sv] 49)) [.int .i64 y.e, .int .i64 y.a, .int .i64 y.v.kind, .int .i64 y.v.n, .string ⟨y.v.s.toArray⟩, tv] 49 hsz.symm
  go_enter Try.func68, Try.ntmps68
  go_upto_region 1 with fail
  have ha2 := ha.below hBb ha.lt
  have HB := Lib.hid (hBa.trans (hBb.mono hBa.size))
  generalize (w.alloc (.cells #[.int .i64 x.e, .int .i64 x.a, .int .i64 x.v.kind, .int .i64 x.v.n, .string ⟨x.v.s.toArray⟩, sv] 49)).alloc (.cells #[.int .i64 y.e, .int .i64 y.a, .int .i64 y.v.kind, .int .i64 y.v.n, .string ⟨y.v.s.toArray⟩, tv] 49) = w2 at *
  have hx1 := ha2.lt
  have hy1 := hb.lt
  obtain ⟨x0, x1, x2, x3, x4, -⟩ := ha2.cells.f6
  obtain ⟨y0, y1, y2, y3, y4, -⟩ := hb.cells.f6
  clear ha ha2 hb hBa hBb
  refine wp_region_held_drew (S := fun w' => Below w2.heap.size w2 w') (by kernel_rfl) (Below.drew (Below.refl _ _)) (fun hHeld => ?_)
  refine wpAnyH_take (i := 0) (v := .pointer (some ⟨w.heap.size, 0, none⟩)) rfl (by kernel_rfl) (by kernel_rfl) (by kernel_rfl) (fun _ _ _ h => h) (Or.inl ⟨by rfl, ?_⟩) hHeld ?_
  · intro w' hSw; go_simp
  try simp only [Act.put, List.getElem_toArray, List.getElem_cons_succ, List.getElem_cons_zero, List.setIfInBounds_toArray, List.set_cons_zero, List.set_cons_succ]
  refine wpAnyH_take (i := 1) (v := .int .i64 (x.e)) rfl (by kernel_rfl) (by kernel_rfl) (by kernel_rfl) (fun _ _ _ h => h) (Or.inl ⟨by rfl, ?_⟩) hHeld ?_
  · intro w' hSw; have kx := (World.cell?_of_block (hSw.block _ hx1)).trans x0; go_simp
  try simp only [Act.put, List.getElem_toArray, List.getElem_cons_succ, List.getElem_cons_zero, List.setIfInBounds_toArray, List.set_cons_zero, List.set_cons_succ]
  refine wpAnyH_take (i := 2) (v := .pointer (some ⟨(w.heap.size + 1), 0, none⟩)) rfl (by kernel_rfl) (by kernel_rfl) (by kernel_rfl) (fun _ _ _ h => h) (Or.inl ⟨by rfl, ?_⟩) hHeld ?_
  · intro w' hSw; go_simp
  try simp only [Act.put, List.getElem_toArray, List.getElem_cons_succ, List.getElem_cons_zero, List.setIfInBounds_toArray, List.set_cons_zero, List.set_cons_succ]
  refine wpAnyH_take (i := 3) (v := .int .i64 (y.e)) rfl (by kernel_rfl) (by kernel_rfl) (by kernel_rfl) (fun _ _ _ h => h) (Or.inl ⟨by rfl, ?_⟩) hHeld ?_
  · intro w' hSw; have kx := (World.cell?_of_block (hSw.block _ hy1)).trans y0; go_simp
  try simp only [Act.put, List.getElem_toArray, List.getElem_cons_succ, List.getElem_cons_zero, List.setIfInBounds_toArray, List.set_cons_zero, List.set_cons_succ]
  refine wpAnyH_take (i := 5) (v := .pointer (some ⟨w.heap.size, 1, none⟩)) rfl (by kernel_rfl) (by kernel_rfl) (by kernel_rfl) (fun _ _ _ h => h) (Or.inl ⟨by rfl, ?_⟩) hHeld ?_
  · intro w' hSw; go_simp
  try simp only [Act.put, List.getElem_toArray, List.getElem_cons_succ, List.getElem_cons_zero, List.setIfInBounds_toArray, List.set_cons_zero, List.set_cons_succ]
  refine wpAnyH_take (i := 6) (v := .int .i64 (x.a)) rfl (by kernel_rfl) (by kernel_rfl) (by kernel_rfl) (fun _ _ _ h => h) (Or.inl ⟨by rfl, ?_⟩) hHeld ?_
  · intro w' hSw; have kx := (World.cell?_of_block (hSw.block _ hx1)).trans x1; go_simp
  try simp only [Act.put, List.getElem_toArray, List.getElem_cons_succ, List.getElem_cons_zero, List.setIfInBounds_toArray, List.set_cons_zero, List.set_cons_succ]
  refine wpAnyH_take (i := 7) (v := .pointer (some ⟨(w.heap.size + 1), 1, none⟩)) rfl (by kernel_rfl) (by kernel_rfl) (by kernel_rfl) (fun _ _ _ h => h) (Or.inl ⟨by rfl, ?_⟩) hHeld ?_
  · intro w' hSw; go_simp
  try simp only [Act.put, List.getElem_toArray, List.getElem_cons_succ, List.getElem_cons_zero, List.setIfInBounds_toArray, List.set_cons_zero, List.set_cons_succ]
  refine wpAnyH_take (i := 8) (v := .int .i64 (y.a)) rfl (by kernel_rfl) (by kernel_rfl) (by kernel_rfl) (fun _ _ _ h => h) (Or.inl ⟨by rfl, ?_⟩) hHeld ?_
  · intro w' hSw; have kx := (World.cell?_of_block (hSw.block _ hy1)).trans y1; go_simp
  try simp only [Act.put, List.getElem_toArray, List.getElem_cons_succ, List.getElem_cons_zero, List.setIfInBounds_toArray, List.set_cons_zero, List.set_cons_succ]
  refine wpAnyH_take (i := 10) (v := .pointer (some ⟨w.heap.size, 2, none⟩)) rfl (by kernel_rfl) (by kernel_rfl) (by kernel_rfl) (fun _ _ _ h => h) (Or.inl ⟨by rfl, ?_⟩) hHeld ?_
  · intro w' hSw; go_simp
  try simp only [Act.put, List.getElem_toArray, List.getElem_cons_succ, List.getElem_cons_zero, List.setIfInBounds_toArray, List.set_cons_zero, List.set_cons_succ]
  refine wpAnyH_take (i := 11) (v := .agg #[.int .i64 (x.v.kind), .int .i64 (x.v.n), .string ⟨x.v.s.toArray⟩]) rfl (by kernel_rfl) (by kernel_rfl) (by kernel_rfl) (fun _ _ _ h => h) (Or.inl ⟨by rfl, ?_⟩) hHeld ?_
  · intro w' hSw; have k2 := (World.cell?_of_block (hSw.block _ hx1)).trans x2; have k3 := (World.cell?_of_block (hSw.block _ hx1)).trans x3; have k4 := (World.cell?_of_block (hSw.block _ hx1)).trans x4; go_simp
  try simp only [Act.put, List.getElem_toArray, List.getElem_cons_succ, List.getElem_cons_zero, List.setIfInBounds_toArray, List.set_cons_zero, List.set_cons_succ]
  refine wpAnyH_take (i := 12) (v := .pointer (some ⟨(w.heap.size + 1), 2, none⟩)) rfl (by kernel_rfl) (by kernel_rfl) (by kernel_rfl) (fun _ _ _ h => h) (Or.inl ⟨by rfl, ?_⟩) hHeld ?_
  · intro w' hSw; go_simp
  try simp only [Act.put, List.getElem_toArray, List.getElem_cons_succ, List.getElem_cons_zero, List.setIfInBounds_toArray, List.set_cons_zero, List.set_cons_succ]
  refine wpAnyH_take (i := 13) (v := .agg #[.int .i64 (y.v.kind), .int .i64 (y.v.n), .string ⟨y.v.s.toArray⟩]) rfl (by kernel_rfl) (by kernel_rfl) (by kernel_rfl) (fun _ _ _ h => h) (Or.inl ⟨by rfl, ?_⟩) hHeld ?_
  · intro w' hSw; have k2 := (World.cell?_of_block (hSw.block _ hy1)).trans y2; have k3 := (World.cell?_of_block (hSw.block _ hy1)).trans y3; have k4 := (World.cell?_of_block (hSw.block _ hy1)).trans y4; go_simp
  try simp only [Act.put, List.getElem_toArray, List.getElem_cons_succ, List.getElem_cons_zero, List.setIfInBounds_toArray, List.set_cons_zero, List.set_cons_succ]
  refine wpAnyH_ready (rs := [4]) (by kernel_rfl) (by simp) ?_
  refine allCall (f := 80) (args := #[.int .i64 (x.e), .int .i64 (y.e)]) rfl (by kernel_rfl) (by kernel_rfl) ?_ AllReadyH.nil
  refine cmp_int64 x.e y.e w2.drew _ ⟨_, rfl, hHeld, ?_⟩
  try simp only [Act.put, List.getElem_toArray, List.getElem_cons_succ, List.getElem_cons_zero, List.setIfInBounds_toArray, List.set_cons_zero, List.set_cons_succ]
  refine wpAnyH_ready (rs := [9]) (by kernel_rfl) (by simp) ?_
  refine allCall (f := 80) (args := #[.int .i64 (x.a), .int .i64 (y.a)]) rfl (by kernel_rfl) (by kernel_rfl) ?_ AllReadyH.nil
  refine cmp_int64 x.a y.a w2.drew _ ⟨_, rfl, hHeld, ?_⟩
  try simp only [Act.put, List.getElem_toArray, List.getElem_cons_succ, List.getElem_cons_zero, List.setIfInBounds_toArray, List.set_cons_zero, List.set_cons_succ]
  refine wpAnyH_ready (rs := [14]) (by kernel_rfl) (by simp) ?_
  refine allCall (f := 81) (args := #[.agg #[.int .i64 (x.v.kind), .int .i64 (x.v.n), .string ⟨x.v.s.toArray⟩], .agg #[.int .i64 (y.v.kind), .int .i64 (y.v.n), .string ⟨y.v.s.toArray⟩]]) rfl (by kernel_rfl) (by kernel_rfl) ?_ AllReadyH.nil
  refine Compare_any x.v y.v w2.drew _ (fun wq1 hB => ?_)
  refine ⟨_, rfl, hHeld.trans (hB.mono hHeld.size), ?_⟩
  have hHeld2 := hHeld.trans (hB.mono hHeld.size)
  clear hHeld
  have hHeld := hHeld2
  clear hHeld2
  clear hB
  try simp only [Act.put, List.getElem_toArray, List.getElem_cons_succ, List.getElem_cons_zero, List.setIfInBounds_toArray, List.set_cons_zero, List.set_cons_succ]
  refine wpAnyH_ready (rs := [15]) (by kernel_rfl) (by simp) ?_
  refine allVal (v := .slice (some ⟨wq1.heap.size, 0, none⟩) 3 3) (w' := wq1.alloc (.cells #[.int .i64 (icmp x.e y.e), .int .i64 (icmp x.a y.a), .int .i64 (cmpV x.v y.v)] 3)) rfl (by kernel_rfl) ?_ (hHeld.alloc hHeld.size _) ?_ AllReadyH.nil
  · go_simp
  have hcn := CellsAt.newAt wq1 [.int .i64 (icmp x.e y.e), .int .i64 (icmp x.a y.a), .int .i64 (cmpV x.v y.v)] 3 (n := wq1.heap.size) rfl
  have hHeld2 := hHeld.alloc hHeld.size (.cells #[.int .i64 (icmp x.e y.e), .int .i64 (icmp x.a y.a), .int .i64 (cmpV x.v y.v)] 3)
  clear hHeld
  have hHeld := hHeld2
  clear hHeld2
  generalize wq1.alloc (.cells #[.int .i64 (icmp x.e y.e), .int .i64 (icmp x.a y.a), .int .i64 (cmpV x.v y.v)] 3) = wz at *
  try simp only [Act.put, List.getElem_toArray, List.getElem_cons_succ, List.getElem_cons_zero, List.setIfInBounds_toArray, List.set_cons_zero, List.set_cons_succ]
  refine wpAnyH_ready (rs := [16]) (by kernel_rfl) (by simp) ?_
  refine allCall (f := 79) (args := #[.slice (some ⟨wq1.heap.size, 0, none⟩) 3 3]) rfl (by kernel_rfl) (by kernel_rfl) ?_ AllReadyH.nil
  refine Or3 _ _ _ _ wz hcn _ ⟨_, rfl, hHeld, ?_⟩
  try simp only [Act.put, List.getElem_toArray, List.getElem_cons_succ, List.getElem_cons_zero, List.setIfInBounds_toArray, List.set_cons_zero, List.set_cons_succ]
  refine wpAnyH_take (i := 17) (v := .int .i64 ((or3 (icmp x.e y.e) (icmp x.a y.a) (cmpV x.v y.v)))) rfl (by kernel_rfl) (by kernel_rfl) (by kernel_rfl) (fun _ _ _ h => h) (Or.inl ⟨by rfl, ?_⟩) hHeld ?_
  · intro w' hSw; go_simp
  try simp only [Act.put, List.getElem_toArray, List.getElem_cons_succ, List.getElem_cons_zero, List.setIfInBounds_toArray, List.set_cons_zero, List.set_cons_succ]
  have hHeld0 := hHeld
  refine wpAnyH_done (by kernel_rfl) ?_ _
  clear hHeld
  have hr := HR.out wz (HB.out.trans (hHeld0.mono HB.out.size))
  clear hHeld0
  go_wp2_with fail
  first | exact hr | exact fin hr rfl
theorem factsB_true {l : List Ft} (h : ∀ j, j < l.length → ftOk l j = true) : factsB l = true := range_all h
theorem factsB_false {l : List Ft} {j : Nat} (hj : j < l.length) (h : ftOk l j = false) : factsB l = false := range_all_not hj h
set_option maxRecDepth 100000 in
set_option maxHeartbeats 8000000 in
theorem fall_any (lo hi : Nat) (l : List Ft) (v : Value) (w : World) (hv : Fts lo hi w v l) (hhi : hi ≤ w.heap.size) (hl : ∀ x ∈ l, x.v.s.length ≤ 9223372036854775807) (R : Ending → World → Prop) (hR : ∀ w', Below w.heap.size w w' → R (.returned (.bool (factsB l))) w') :
    Calls Try.prog 57 #[v] w R := by
  have Hv := Lib.hid hv
  have Hl := Lib.hid hl
  obtain ⟨ao, cap, rfl, hcl, hcm, -, -⟩ := hv.form
  clear hv hl
  go_enter Try.func57, Try.ntmps57
  go_wp2_with fail
  go_loopw [3, 4, 7] (fun _ _ t7 wr => ∃ k : Nat, k ≤ l.length ∧ t7 = .int .i64 k ∧ (∀ j, j < k → ftOk l j = true) ∧ Below w.heap.size w wr) (fun _ _ t7 _ => l.length - (intOf t7).toNat)
  case atStart => exact ⟨0, Nat.zero_le _, rfl, fun j h => absurd h (Nat.not_lt_zero _), Below.refl _ _⟩
  case round =>
    obtain ⟨k, hk, rfl, hyes, hB⟩ := hrel
    have Hyes := Lib.hid hyes
    clear hyes
    obtain ⟨wo, ewo⟩ : ∃ x, x = wr := ⟨_, rfl⟩
    subst ewo
    have hz := hB.size
    by_cases hlt : k < l.length
    · obtain ⟨ao', cap', e', -, -, -, hc⟩ := (Sl.below Hv.out ftE_loc hB hhi).form
      injection e' with e1 e2 e3
      subst e1 e3
      obtain ⟨b, off, rfl, hb1, hb2, hcc⟩ := hc k hlt
      obtain ⟨cs, _, hcs, sv, rfl, hsv⟩ := hcc k hlt
      have Hsv := Lib.hid hsv
      obtain ⟨ax, cx, rfl, -, -, -, -⟩ := hsv.form
      obtain ⟨h0, h1, h2, h3, h4, h5⟩ := hcs.f6
      have hbw : b < wo.heap.size := by omega
      have hxl := Hl.out l[k] (List.getElem_mem hlt)
      have Ho : Hid (ftOk l k = (l[k].may && (k == 0 || decide (cmpF (l.getD (k - 1) default) l[k] < 0)))) := Lib.hid (by unfold ftOk; rw [getD_at l _ k hlt])
      have HB := Lib.hid hB
      have kk0 : (0 : Int) ≤ (k : Int) := by omega
      have kkl : (k : Int) < (l.length : Int) := by omega
      clear hcs hB hc hsv
      by_cases hk0 : 0 < k
      · obtain ⟨m, hmk⟩ : ∃ m, k = m + 1 := ⟨k - 1, by omega⟩
        have hml : m < l.length := by omega
        obtain ⟨cs2, _, hcs2, sv2, rfl, hsv2⟩ := hcc m hml
        obtain ⟨ap, cp, rfl, -, -, -, -⟩ := hsv2.form
        obtain ⟨q0, q1, q2, q3, q4, q5⟩ := hcs2.f6
        have wj : IntKind.i64.wrap ((k : Int) - 1) = (m : Int) := by rw [show (k : Int) - 1 = (m : Int) by omega]; exact wrap_ok (by omega) (by omega)
        have Hj : Hid (l.getD (k - 1) default = l[m]) := Lib.hid (by rw [show k - 1 = m by omega, getD_at l _ m hml])
        have j0 : (0 : Int) ≤ (m : Int) := by omega
        have jl : (m : Int) < (l.length : Int) := by omega
        clear hcs2 hcc hsv2
        generalize l[m] = p at *
        generalize hs : l[k] = x at *
        clear hs hmk
        have hal := alloc_below wo (.cells #[.int .i64 x.e, .int .i64 x.a, .int .i64 x.v.kind, .int .i64 x.v.n, .string ⟨x.v.s.toArray⟩, .slice ax x.sp.length cx] 49)
        have hbk := Blk.new wo [.int .i64 x.e, .int .i64 x.a, .int .i64 x.v.kind, .int .i64 x.v.n, .string ⟨x.v.s.toArray⟩, .slice ax x.sp.length cx] 49 rfl
        go_upto_region 4 with fail
        generalize wo.alloc (.cells #[.int .i64 x.e, .int .i64 x.a, .int .i64 x.v.kind, .int .i64 x.v.n, .string ⟨x.v.s.toArray⟩, .slice ax x.sp.length cx] 49) = wa at *
        obtain ⟨y0, y1, y2, y3, y4, y5⟩ := hbk.cells.f6
        have hy1 := hbk.lt
        have hba : b < wa.heap.size := Nat.lt_of_lt_of_le hbw hal.size
        have g0 := (World.cell?_of_block (hal.block b hbw)).trans q0
        have g1 := (World.cell?_of_block (hal.block b hbw)).trans q1
        have g2 := (World.cell?_of_block (hal.block b hbw)).trans q2
        have g3 := (World.cell?_of_block (hal.block b hbw)).trans q3
        have g4 := (World.cell?_of_block (hal.block b hbw)).trans q4
        have g5 := (World.cell?_of_block (hal.block b hbw)).trans q5
        clear q0 q1 q2 q3 q4 q5
        have HBa := Lib.hid (HB.out.trans (hal.mono hz))
        have hha : hi ≤ wa.heap.size := Nat.le_trans hhi HBa.out.size
        have hSp : Hid (∀ w', Below wa.heap.size wa w' → Spans lo hi w' (.slice ax x.sp.length cx) x.sp) := Lib.hid (fun w' h => Sl.below (Sl.below Hsv.out Sp.loc hal (by omega)) Sp.loc h hha)
        clear hal hbk h0 h1 h2 h3 h4 h5 Hsv
        cases hm : x.may
        ·
          refine wp_region_held_drew (S := fun w' => Below wa.heap.size wa w') (by kernel_rfl) (Below.drew (Below.refl _ _)) (fun hHeld => ?_)
          refine wpAnyH_take (i := 0) (v := .agg #[.int .i64 (x.e), .int .i64 (x.a), .int .i64 (x.v.kind), .int .i64 (x.v.n), .string ⟨x.v.s.toArray⟩, .slice ax x.sp.length cx]) rfl (by kernel_rfl) (by kernel_rfl) (by kernel_rfl) (fun _ _ _ h => h) (Or.inl ⟨by rfl, ?_⟩) hHeld ?_
          · intro w' hSw; have k0 := (World.cell?_of_block (hSw.block _ hy1)).trans y0; have k1 := (World.cell?_of_block (hSw.block _ hy1)).trans y1; have k2 := (World.cell?_of_block (hSw.block _ hy1)).trans y2; have k3 := (World.cell?_of_block (hSw.block _ hy1)).trans y3; have k4 := (World.cell?_of_block (hSw.block _ hy1)).trans y4; have k5 := (World.cell?_of_block (hSw.block _ hy1)).trans y5; go_simp
          try simp only [Act.put, List.getElem_toArray, List.getElem_cons_succ, List.getElem_cons_zero, List.setIfInBounds_toArray, List.set_cons_zero, List.set_cons_succ]
          refine wpAnyH_ready (rs := [1]) (by kernel_rfl) (by simp) ?_
          refine allCall (f := 67) (args := #[.agg #[.int .i64 (x.e), .int .i64 (x.a), .int .i64 (x.v.kind), .int .i64 (x.v.n), .string ⟨x.v.s.toArray⟩, .slice ax x.sp.length cx]]) rfl (by kernel_rfl) (by kernel_rfl) ?_ AllReadyH.nil
          refine fmay_any lo hi x (.slice ax x.sp.length cx) wa.drew (hSp.out _ hHeld) (Nat.le_trans hha hHeld.size) hxl _ (fun wq1 hB => ?_)
          rw [hm]
          refine ⟨_, rfl, hHeld.trans (hB.mono hHeld.size), ?_⟩
          have hHeld2 := hHeld.trans (hB.mono hHeld.size)
          clear hHeld
          have hHeld := hHeld2
          clear hHeld2
          clear hB
          try simp only [Act.put, List.getElem_toArray, List.getElem_cons_succ, List.getElem_cons_zero, List.setIfInBounds_toArray, List.set_cons_zero, List.set_cons_succ]
          refine wpAnyH_take (i := 2) (v := .bool true) rfl (by kernel_rfl) (by kernel_rfl) (by kernel_rfl) (fun _ _ _ h => h) (Or.inl ⟨by rfl, ?_⟩) hHeld ?_
          · intro w' hSw; go_simp <;> omega
          try simp only [Act.put, List.getElem_toArray, List.getElem_cons_succ, List.getElem_cons_zero, List.setIfInBounds_toArray, List.set_cons_zero, List.set_cons_succ]
          refine wpAnyH_take (i := 3) (v := .bool true) rfl (by kernel_rfl) (by kernel_rfl) (by kernel_rfl) (fun _ _ _ h => h) (Or.inl ⟨by rfl, ?_⟩) hHeld ?_
          · intro w' hSw; go_simp <;> omega
          try simp only [Act.put, List.getElem_toArray, List.getElem_cons_succ, List.getElem_cons_zero, List.setIfInBounds_toArray, List.set_cons_zero, List.set_cons_succ]
          refine wpAnyH_take (i := 4) (v := undef) rfl (by kernel_rfl) (by kernel_rfl) (by kernel_rfl) (fun _ _ _ h => h) (Or.inr ⟨by kernel_rfl, rfl⟩) hHeld ?_
          try simp only [Act.put, List.getElem_toArray, List.getElem_cons_succ, List.getElem_cons_zero, List.setIfInBounds_toArray, List.set_cons_zero, List.set_cons_succ]
          refine wpAnyH_take (i := 5) (v := undef) rfl (by kernel_rfl) (by kernel_rfl) (by kernel_rfl) (fun _ _ _ h => h) (Or.inr ⟨by kernel_rfl, rfl⟩) hHeld ?_
          try simp only [Act.put, List.getElem_toArray, List.getElem_cons_succ, List.getElem_cons_zero, List.setIfInBounds_toArray, List.set_cons_zero, List.set_cons_succ]
          refine wpAnyH_take (i := 6) (v := undef) rfl (by kernel_rfl) (by kernel_rfl) (by kernel_rfl) (fun _ _ _ h => h) (Or.inr ⟨by kernel_rfl, rfl⟩) hHeld ?_
          try simp only [Act.put, List.getElem_toArray, List.getElem_cons_succ, List.getElem_cons_zero, List.setIfInBounds_toArray, List.set_cons_zero, List.set_cons_succ]
          refine wpAnyH_take (i := 7) (v := undef) rfl (by kernel_rfl) (by kernel_rfl) (by kernel_rfl) (fun _ _ _ h => h) (Or.inr ⟨by kernel_rfl, rfl⟩) hHeld ?_
          try simp only [Act.put, List.getElem_toArray, List.getElem_cons_succ, List.getElem_cons_zero, List.setIfInBounds_toArray, List.set_cons_zero, List.set_cons_succ]
          refine wpAnyH_take (i := 8) (v := undef) rfl (by kernel_rfl) (by kernel_rfl) (by kernel_rfl) (fun _ _ _ h => h) (Or.inr ⟨by kernel_rfl, rfl⟩) hHeld ?_
          try simp only [Act.put, List.getElem_toArray, List.getElem_cons_succ, List.getElem_cons_zero, List.setIfInBounds_toArray, List.set_cons_zero, List.set_cons_succ]
          refine wpAnyH_take (i := 9) (v := undef) rfl (by kernel_rfl) (by kernel_rfl) (by kernel_rfl) (fun _ _ _ h => h) (Or.inr ⟨by kernel_rfl, rfl⟩) hHeld ?_
          try simp only [Act.put, List.getElem_toArray, List.getElem_cons_succ, List.getElem_cons_zero, List.setIfInBounds_toArray, List.set_cons_zero, List.set_cons_succ]
          refine wpAnyH_take (i := 10) (v := undef) rfl (by kernel_rfl) (by kernel_rfl) (by kernel_rfl) (fun _ _ _ h => h) (Or.inr ⟨by kernel_rfl, rfl⟩) hHeld ?_
          try simp only [Act.put, List.getElem_toArray, List.getElem_cons_succ, List.getElem_cons_zero, List.setIfInBounds_toArray, List.set_cons_zero, List.set_cons_succ]
          refine wpAnyH_take (i := 11) (v := undef) rfl (by kernel_rfl) (by kernel_rfl) (by kernel_rfl) (fun _ _ _ h => h) (Or.inr ⟨by kernel_rfl, rfl⟩) hHeld ?_
          try simp only [Act.put, List.getElem_toArray, List.getElem_cons_succ, List.getElem_cons_zero, List.setIfInBounds_toArray, List.set_cons_zero, List.set_cons_succ]
          refine wpAnyH_take (i := 12) (v := undef) rfl (by kernel_rfl) (by kernel_rfl) (by kernel_rfl) (fun _ _ _ h => h) (Or.inr ⟨by kernel_rfl, rfl⟩) hHeld ?_
          try simp only [Act.put, List.getElem_toArray, List.getElem_cons_succ, List.getElem_cons_zero, List.setIfInBounds_toArray, List.set_cons_zero, List.set_cons_succ]
          refine wpAnyH_take (i := 13) (v := undef) rfl (by kernel_rfl) (by kernel_rfl) (by kernel_rfl) (fun _ _ _ h => h) (Or.inr ⟨by kernel_rfl, rfl⟩) hHeld ?_
          try simp only [Act.put, List.getElem_toArray, List.getElem_cons_succ, List.getElem_cons_zero, List.setIfInBounds_toArray, List.set_cons_zero, List.set_cons_succ]
          refine wpAnyH_take (i := 14) (v := undef) rfl (by kernel_rfl) (by kernel_rfl) (by kernel_rfl) (fun _ _ _ h => h) (Or.inr ⟨by kernel_rfl, rfl⟩) hHeld ?_
          try simp only [Act.put, List.getElem_toArray, List.getElem_cons_succ, List.getElem_cons_zero, List.setIfInBounds_toArray, List.set_cons_zero, List.set_cons_succ]
          refine wpAnyH_take (i := 15) (v := undef) rfl (by kernel_rfl) (by kernel_rfl) (by kernel_rfl) (fun _ _ _ h => h) (Or.inr ⟨by kernel_rfl, rfl⟩) hHeld ?_
          try simp only [Act.put, List.getElem_toArray, List.getElem_cons_succ, List.getElem_cons_zero, List.setIfInBounds_toArray, List.set_cons_zero, List.set_cons_succ]
          refine wpAnyH_take (i := 16) (v := .bool true) rfl (by kernel_rfl) (by kernel_rfl) (by kernel_rfl) (fun _ _ _ h => h) (Or.inl ⟨by rfl, ?_⟩) hHeld ?_
          · intro w' hSw; go_simp <;> omega
          try simp only [Act.put, List.getElem_toArray, List.getElem_cons_succ, List.getElem_cons_zero, List.setIfInBounds_toArray, List.set_cons_zero, List.set_cons_succ]
          have hHeld0 := hHeld
          refine wpAnyH_done (by kernel_rfl) ?_ _
          clear hHeld
          have HB7 := Lib.hid (HBa.out.trans (hHeld0.mono HBa.out.size))
          clear hHeld0
          go_wp2_with fail
          exact fin (hR _ HB7.out) (show Value.bool _ = Value.bool _ by rw [factsB_false hlt (by rw [Ho.out, hm]; rfl)])
        by_cases hok : cmpF p x < 0
        ·
          refine wp_region_held_drew (S := fun w' => Below wa.heap.size wa w') (by kernel_rfl) (Below.drew (Below.refl _ _)) (fun hHeld => ?_)
          refine wpAnyH_take (i := 0) (v := .agg #[.int .i64 (x.e), .int .i64 (x.a), .int .i64 (x.v.kind), .int .i64 (x.v.n), .string ⟨x.v.s.toArray⟩, .slice ax x.sp.length cx]) rfl (by kernel_rfl) (by kernel_rfl) (by kernel_rfl) (fun _ _ _ h => h) (Or.inl ⟨by rfl, ?_⟩) hHeld ?_
          · intro w' hSw; have k0 := (World.cell?_of_block (hSw.block _ hy1)).trans y0; have k1 := (World.cell?_of_block (hSw.block _ hy1)).trans y1; have k2 := (World.cell?_of_block (hSw.block _ hy1)).trans y2; have k3 := (World.cell?_of_block (hSw.block _ hy1)).trans y3; have k4 := (World.cell?_of_block (hSw.block _ hy1)).trans y4; have k5 := (World.cell?_of_block (hSw.block _ hy1)).trans y5; go_simp
          try simp only [Act.put, List.getElem_toArray, List.getElem_cons_succ, List.getElem_cons_zero, List.setIfInBounds_toArray, List.set_cons_zero, List.set_cons_succ]
          refine wpAnyH_ready (rs := [1]) (by kernel_rfl) (by simp) ?_
          refine allCall (f := 67) (args := #[.agg #[.int .i64 (x.e), .int .i64 (x.a), .int .i64 (x.v.kind), .int .i64 (x.v.n), .string ⟨x.v.s.toArray⟩, .slice ax x.sp.length cx]]) rfl (by kernel_rfl) (by kernel_rfl) ?_ AllReadyH.nil
          refine fmay_any lo hi x (.slice ax x.sp.length cx) wa.drew (hSp.out _ hHeld) (Nat.le_trans hha hHeld.size) hxl _ (fun wq1 hB => ?_)
          rw [hm]
          refine ⟨_, rfl, hHeld.trans (hB.mono hHeld.size), ?_⟩
          have hHeld2 := hHeld.trans (hB.mono hHeld.size)
          clear hHeld
          have hHeld := hHeld2
          clear hHeld2
          clear hB
          try simp only [Act.put, List.getElem_toArray, List.getElem_cons_succ, List.getElem_cons_zero, List.setIfInBounds_toArray, List.set_cons_zero, List.set_cons_succ]
          refine wpAnyH_take (i := 2) (v := .bool false) rfl (by kernel_rfl) (by kernel_rfl) (by kernel_rfl) (fun _ _ _ h => h) (Or.inl ⟨by rfl, ?_⟩) hHeld ?_
          · intro w' hSw; go_simp <;> omega
          try simp only [Act.put, List.getElem_toArray, List.getElem_cons_succ, List.getElem_cons_zero, List.setIfInBounds_toArray, List.set_cons_zero, List.set_cons_succ]
          refine wpAnyH_take (i := 3) (v := .bool false) rfl (by kernel_rfl) (by kernel_rfl) (by kernel_rfl) (fun _ _ _ h => h) (Or.inl ⟨by rfl, ?_⟩) hHeld ?_
          · intro w' hSw; go_simp <;> omega
          try simp only [Act.put, List.getElem_toArray, List.getElem_cons_succ, List.getElem_cons_zero, List.setIfInBounds_toArray, List.set_cons_zero, List.set_cons_succ]
          refine wpAnyH_take (i := 4) (v := .int .i64 ((k : Int))) rfl (by kernel_rfl) (by kernel_rfl) (by kernel_rfl) (fun _ _ _ h => h) (Or.inl ⟨by rfl, ?_⟩) hHeld ?_
          · intro w' hSw; go_simp <;> omega
          try simp only [Act.put, List.getElem_toArray, List.getElem_cons_succ, List.getElem_cons_zero, List.setIfInBounds_toArray, List.set_cons_zero, List.set_cons_succ]
          refine wpAnyH_take (i := 5) (v := .bool true) rfl (by kernel_rfl) (by kernel_rfl) (by kernel_rfl) (fun _ _ _ h => h) (Or.inl ⟨by rfl, ?_⟩) hHeld ?_
          · intro w' hSw; go_simp <;> omega
          try simp only [Act.put, List.getElem_toArray, List.getElem_cons_succ, List.getElem_cons_zero, List.setIfInBounds_toArray, List.set_cons_zero, List.set_cons_succ]
          refine wpAnyH_take (i := 6) (v := .bool true) rfl (by kernel_rfl) (by kernel_rfl) (by kernel_rfl) (fun _ _ _ h => h) (Or.inl ⟨by rfl, ?_⟩) hHeld ?_
          · intro w' hSw; go_simp <;> omega
          try simp only [Act.put, List.getElem_toArray, List.getElem_cons_succ, List.getElem_cons_zero, List.setIfInBounds_toArray, List.set_cons_zero, List.set_cons_succ]
          refine wpAnyH_take (i := 7) (v := .slice (some ⟨b, off, none⟩) l.length cap) rfl (by kernel_rfl) (by kernel_rfl) (by kernel_rfl) (fun _ _ _ h => h) (Or.inl ⟨by rfl, ?_⟩) hHeld ?_
          · intro w' hSw; go_simp <;> omega
          try simp only [Act.put, List.getElem_toArray, List.getElem_cons_succ, List.getElem_cons_zero, List.setIfInBounds_toArray, List.set_cons_zero, List.set_cons_succ]
          refine wpAnyH_take (i := 8) (v := .int .i64 ((k : Int))) rfl (by kernel_rfl) (by kernel_rfl) (by kernel_rfl) (fun _ _ _ h => h) (Or.inl ⟨by rfl, ?_⟩) hHeld ?_
          · intro w' hSw; go_simp <;> omega
          try simp only [Act.put, List.getElem_toArray, List.getElem_cons_succ, List.getElem_cons_zero, List.setIfInBounds_toArray, List.set_cons_zero, List.set_cons_succ]
          refine wpAnyH_take (i := 9) (v := .int .i64 ((m : Int))) rfl (by kernel_rfl) (by kernel_rfl) (by kernel_rfl) (fun _ _ _ h => h) (Or.inl ⟨by rfl, ?_⟩) hHeld ?_
          · intro w' hSw; go_simp <;> omega
          try simp only [Act.put, List.getElem_toArray, List.getElem_cons_succ, List.getElem_cons_zero, List.setIfInBounds_toArray, List.set_cons_zero, List.set_cons_succ]
          refine wpAnyH_take (i := 10) (v := .pointer (some ⟨b, off + m * 6, none⟩)) rfl (by kernel_rfl) (by kernel_rfl) (by kernel_rfl) (fun _ _ _ h => h) (Or.inl ⟨by rfl, ?_⟩) hHeld ?_
          · intro w' hSw; go_simp <;> omega
          try simp only [Act.put, List.getElem_toArray, List.getElem_cons_succ, List.getElem_cons_zero, List.setIfInBounds_toArray, List.set_cons_zero, List.set_cons_succ]
          refine wpAnyH_take (i := 11) (v := .agg #[.int .i64 (p.e), .int .i64 (p.a), .int .i64 (p.v.kind), .int .i64 (p.v.n), .string ⟨p.v.s.toArray⟩, .slice ap p.sp.length cp]) rfl (by kernel_rfl) (by kernel_rfl) (by kernel_rfl) (fun _ _ _ h => h) (Or.inl ⟨by rfl, ?_⟩) hHeld ?_
          · intro w' hSw; have k0 := (World.cell?_of_block (hSw.block _ hba)).trans g0; have k1 := (World.cell?_of_block (hSw.block _ hba)).trans g1; have k2 := (World.cell?_of_block (hSw.block _ hba)).trans g2; have k3 := (World.cell?_of_block (hSw.block _ hba)).trans g3; have k4 := (World.cell?_of_block (hSw.block _ hba)).trans g4; have k5 := (World.cell?_of_block (hSw.block _ hba)).trans g5; go_simp
          try simp only [Act.put, List.getElem_toArray, List.getElem_cons_succ, List.getElem_cons_zero, List.setIfInBounds_toArray, List.set_cons_zero, List.set_cons_succ]
          refine wpAnyH_take (i := 12) (v := .agg #[.int .i64 (x.e), .int .i64 (x.a), .int .i64 (x.v.kind), .int .i64 (x.v.n), .string ⟨x.v.s.toArray⟩, .slice ax x.sp.length cx]) rfl (by kernel_rfl) (by kernel_rfl) (by kernel_rfl) (fun _ _ _ h => h) (Or.inl ⟨by rfl, ?_⟩) hHeld ?_
          · intro w' hSw; have k0 := (World.cell?_of_block (hSw.block _ hy1)).trans y0; have k1 := (World.cell?_of_block (hSw.block _ hy1)).trans y1; have k2 := (World.cell?_of_block (hSw.block _ hy1)).trans y2; have k3 := (World.cell?_of_block (hSw.block _ hy1)).trans y3; have k4 := (World.cell?_of_block (hSw.block _ hy1)).trans y4; have k5 := (World.cell?_of_block (hSw.block _ hy1)).trans y5; go_simp
          try simp only [Act.put, List.getElem_toArray, List.getElem_cons_succ, List.getElem_cons_zero, List.setIfInBounds_toArray, List.set_cons_zero, List.set_cons_succ]
          refine wpAnyH_ready (rs := [13]) (by kernel_rfl) (by simp) ?_
          refine allCall (f := 68) (args := #[.agg #[.int .i64 (p.e), .int .i64 (p.a), .int .i64 (p.v.kind), .int .i64 (p.v.n), .string ⟨p.v.s.toArray⟩, .slice ap p.sp.length cp], .agg #[.int .i64 (x.e), .int .i64 (x.a), .int .i64 (x.v.kind), .int .i64 (x.v.n), .string ⟨x.v.s.toArray⟩, .slice ax x.sp.length cx]]) rfl (by kernel_rfl) (by kernel_rfl) ?_ AllReadyH.nil
          refine fcompare_any p x _ _ wq1 _ (fun wq2 hB => ?_)
          refine ⟨_, rfl, hHeld.trans (hB.mono hHeld.size), ?_⟩
          have hHeld2 := hHeld.trans (hB.mono hHeld.size)
          clear hHeld
          have hHeld := hHeld2
          clear hHeld2
          clear hB
          try simp only [Act.put, List.getElem_toArray, List.getElem_cons_succ, List.getElem_cons_zero, List.setIfInBounds_toArray, List.set_cons_zero, List.set_cons_succ]
          refine wpAnyH_take (i := 14) (v := .bool false) rfl (by kernel_rfl) (by kernel_rfl) (by kernel_rfl) (fun _ _ _ h => h) (Or.inl ⟨by rfl, ?_⟩) hHeld ?_
          · intro w' hSw; go_simp <;> omega
          try simp only [Act.put, List.getElem_toArray, List.getElem_cons_succ, List.getElem_cons_zero, List.setIfInBounds_toArray, List.set_cons_zero, List.set_cons_succ]
          refine wpAnyH_take (i := 15) (v := .bool false) rfl (by kernel_rfl) (by kernel_rfl) (by kernel_rfl) (fun _ _ _ h => h) (Or.inl ⟨by rfl, ?_⟩) hHeld ?_
          · intro w' hSw; go_simp <;> omega
          try simp only [Act.put, List.getElem_toArray, List.getElem_cons_succ, List.getElem_cons_zero, List.setIfInBounds_toArray, List.set_cons_zero, List.set_cons_succ]
          refine wpAnyH_take (i := 16) (v := .bool false) rfl (by kernel_rfl) (by kernel_rfl) (by kernel_rfl) (fun _ _ _ h => h) (Or.inl ⟨by rfl, ?_⟩) hHeld ?_
          · intro w' hSw; go_simp <;> omega
          try simp only [Act.put, List.getElem_toArray, List.getElem_cons_succ, List.getElem_cons_zero, List.setIfInBounds_toArray, List.set_cons_zero, List.set_cons_succ]
          have hHeld0 := hHeld
          refine wpAnyH_done (by kernel_rfl) ?_ _
          clear hHeld
          have HB7 := Lib.hid (HBa.out.trans (hHeld0.mono HBa.out.size))
          clear hHeld0
          go_wp2_with fail
          go_roundw
          case rel => exact ⟨k + 1, by omega, by go_num, fun j hj => by
            by_cases e : j = k
            · subst e; rw [Ho.out, Hj.out, hm]; simp [hok]
            · exact Hyes.out j (by omega), HB7.out⟩
          case measure => simp [intOf]; omega
        ·
          refine wp_region_held_drew (S := fun w' => Below wa.heap.size wa w') (by kernel_rfl) (Below.drew (Below.refl _ _)) (fun hHeld => ?_)
          refine wpAnyH_take (i := 0) (v := .agg #[.int .i64 (x.e), .int .i64 (x.a), .int .i64 (x.v.kind), .int .i64 (x.v.n), .string ⟨x.v.s.toArray⟩, .slice ax x.sp.length cx]) rfl (by kernel_rfl) (by kernel_rfl) (by kernel_rfl) (fun _ _ _ h => h) (Or.inl ⟨by rfl, ?_⟩) hHeld ?_
          · intro w' hSw; have k0 := (World.cell?_of_block (hSw.block _ hy1)).trans y0; have k1 := (World.cell?_of_block (hSw.block _ hy1)).trans y1; have k2 := (World.cell?_of_block (hSw.block _ hy1)).trans y2; have k3 := (World.cell?_of_block (hSw.block _ hy1)).trans y3; have k4 := (World.cell?_of_block (hSw.block _ hy1)).trans y4; have k5 := (World.cell?_of_block (hSw.block _ hy1)).trans y5; go_simp
          try simp only [Act.put, List.getElem_toArray, List.getElem_cons_succ, List.getElem_cons_zero, List.setIfInBounds_toArray, List.set_cons_zero, List.set_cons_succ]
          refine wpAnyH_ready (rs := [1]) (by kernel_rfl) (by simp) ?_
          refine allCall (f := 67) (args := #[.agg #[.int .i64 (x.e), .int .i64 (x.a), .int .i64 (x.v.kind), .int .i64 (x.v.n), .string ⟨x.v.s.toArray⟩, .slice ax x.sp.length cx]]) rfl (by kernel_rfl) (by kernel_rfl) ?_ AllReadyH.nil
          refine fmay_any lo hi x (.slice ax x.sp.length cx) wa.drew (hSp.out _ hHeld) (Nat.le_trans hha hHeld.size) hxl _ (fun wq1 hB => ?_)
          rw [hm]
          refine ⟨_, rfl, hHeld.trans (hB.mono hHeld.size), ?_⟩
          have hHeld2 := hHeld.trans (hB.mono hHeld.size)
          clear hHeld
          have hHeld := hHeld2
          clear hHeld2
          clear hB
          try simp only [Act.put, List.getElem_toArray, List.getElem_cons_succ, List.getElem_cons_zero, List.setIfInBounds_toArray, List.set_cons_zero, List.set_cons_succ]
          refine wpAnyH_take (i := 2) (v := .bool false) rfl (by kernel_rfl) (by kernel_rfl) (by kernel_rfl) (fun _ _ _ h => h) (Or.inl ⟨by rfl, ?_⟩) hHeld ?_
          · intro w' hSw; go_simp <;> omega
          try simp only [Act.put, List.getElem_toArray, List.getElem_cons_succ, List.getElem_cons_zero, List.setIfInBounds_toArray, List.set_cons_zero, List.set_cons_succ]
          refine wpAnyH_take (i := 3) (v := .bool false) rfl (by kernel_rfl) (by kernel_rfl) (by kernel_rfl) (fun _ _ _ h => h) (Or.inl ⟨by rfl, ?_⟩) hHeld ?_
          · intro w' hSw; go_simp <;> omega
          try simp only [Act.put, List.getElem_toArray, List.getElem_cons_succ, List.getElem_cons_zero, List.setIfInBounds_toArray, List.set_cons_zero, List.set_cons_succ]
          refine wpAnyH_take (i := 4) (v := .int .i64 ((k : Int))) rfl (by kernel_rfl) (by kernel_rfl) (by kernel_rfl) (fun _ _ _ h => h) (Or.inl ⟨by rfl, ?_⟩) hHeld ?_
          · intro w' hSw; go_simp <;> omega
          try simp only [Act.put, List.getElem_toArray, List.getElem_cons_succ, List.getElem_cons_zero, List.setIfInBounds_toArray, List.set_cons_zero, List.set_cons_succ]
          refine wpAnyH_take (i := 5) (v := .bool true) rfl (by kernel_rfl) (by kernel_rfl) (by kernel_rfl) (fun _ _ _ h => h) (Or.inl ⟨by rfl, ?_⟩) hHeld ?_
          · intro w' hSw; go_simp <;> omega
          try simp only [Act.put, List.getElem_toArray, List.getElem_cons_succ, List.getElem_cons_zero, List.setIfInBounds_toArray, List.set_cons_zero, List.set_cons_succ]
          refine wpAnyH_take (i := 6) (v := .bool true) rfl (by kernel_rfl) (by kernel_rfl) (by kernel_rfl) (fun _ _ _ h => h) (Or.inl ⟨by rfl, ?_⟩) hHeld ?_
          · intro w' hSw; go_simp <;> omega
          try simp only [Act.put, List.getElem_toArray, List.getElem_cons_succ, List.getElem_cons_zero, List.setIfInBounds_toArray, List.set_cons_zero, List.set_cons_succ]
          refine wpAnyH_take (i := 7) (v := .slice (some ⟨b, off, none⟩) l.length cap) rfl (by kernel_rfl) (by kernel_rfl) (by kernel_rfl) (fun _ _ _ h => h) (Or.inl ⟨by rfl, ?_⟩) hHeld ?_
          · intro w' hSw; go_simp <;> omega
          try simp only [Act.put, List.getElem_toArray, List.getElem_cons_succ, List.getElem_cons_zero, List.setIfInBounds_toArray, List.set_cons_zero, List.set_cons_succ]
          refine wpAnyH_take (i := 8) (v := .int .i64 ((k : Int))) rfl (by kernel_rfl) (by kernel_rfl) (by kernel_rfl) (fun _ _ _ h => h) (Or.inl ⟨by rfl, ?_⟩) hHeld ?_
          · intro w' hSw; go_simp <;> omega
          try simp only [Act.put, List.getElem_toArray, List.getElem_cons_succ, List.getElem_cons_zero, List.setIfInBounds_toArray, List.set_cons_zero, List.set_cons_succ]
          refine wpAnyH_take (i := 9) (v := .int .i64 ((m : Int))) rfl (by kernel_rfl) (by kernel_rfl) (by kernel_rfl) (fun _ _ _ h => h) (Or.inl ⟨by rfl, ?_⟩) hHeld ?_
          · intro w' hSw; go_simp <;> omega
          try simp only [Act.put, List.getElem_toArray, List.getElem_cons_succ, List.getElem_cons_zero, List.setIfInBounds_toArray, List.set_cons_zero, List.set_cons_succ]
          refine wpAnyH_take (i := 10) (v := .pointer (some ⟨b, off + m * 6, none⟩)) rfl (by kernel_rfl) (by kernel_rfl) (by kernel_rfl) (fun _ _ _ h => h) (Or.inl ⟨by rfl, ?_⟩) hHeld ?_
          · intro w' hSw; go_simp <;> omega
          try simp only [Act.put, List.getElem_toArray, List.getElem_cons_succ, List.getElem_cons_zero, List.setIfInBounds_toArray, List.set_cons_zero, List.set_cons_succ]
          refine wpAnyH_take (i := 11) (v := .agg #[.int .i64 (p.e), .int .i64 (p.a), .int .i64 (p.v.kind), .int .i64 (p.v.n), .string ⟨p.v.s.toArray⟩, .slice ap p.sp.length cp]) rfl (by kernel_rfl) (by kernel_rfl) (by kernel_rfl) (fun _ _ _ h => h) (Or.inl ⟨by rfl, ?_⟩) hHeld ?_
          · intro w' hSw; have k0 := (World.cell?_of_block (hSw.block _ hba)).trans g0; have k1 := (World.cell?_of_block (hSw.block _ hba)).trans g1; have k2 := (World.cell?_of_block (hSw.block _ hba)).trans g2; have k3 := (World.cell?_of_block (hSw.block _ hba)).trans g3; have k4 := (World.cell?_of_block (hSw.block _ hba)).trans g4; have k5 := (World.cell?_of_block (hSw.block _ hba)).trans g5; go_simp
          try simp only [Act.put, List.getElem_toArray, List.getElem_cons_succ, List.getElem_cons_zero, List.setIfInBounds_toArray, List.set_cons_zero, List.set_cons_succ]
          refine wpAnyH_take (i := 12) (v := .agg #[.int .i64 (x.e), .int .i64 (x.a), .int .i64 (x.v.kind), .int .i64 (x.v.n), .string ⟨x.v.s.toArray⟩, .slice ax x.sp.length cx]) rfl (by kernel_rfl) (by kernel_rfl) (by kernel_rfl) (fun _ _ _ h => h) (Or.inl ⟨by rfl, ?_⟩) hHeld ?_
          · intro w' hSw; have k0 := (World.cell?_of_block (hSw.block _ hy1)).trans y0; have k1 := (World.cell?_of_block (hSw.block _ hy1)).trans y1; have k2 := (World.cell?_of_block (hSw.block _ hy1)).trans y2; have k3 := (World.cell?_of_block (hSw.block _ hy1)).trans y3; have k4 := (World.cell?_of_block (hSw.block _ hy1)).trans y4; have k5 := (World.cell?_of_block (hSw.block _ hy1)).trans y5; go_simp
          try simp only [Act.put, List.getElem_toArray, List.getElem_cons_succ, List.getElem_cons_zero, List.setIfInBounds_toArray, List.set_cons_zero, List.set_cons_succ]
          refine wpAnyH_ready (rs := [13]) (by kernel_rfl) (by simp) ?_
          refine allCall (f := 68) (args := #[.agg #[.int .i64 (p.e), .int .i64 (p.a), .int .i64 (p.v.kind), .int .i64 (p.v.n), .string ⟨p.v.s.toArray⟩, .slice ap p.sp.length cp], .agg #[.int .i64 (x.e), .int .i64 (x.a), .int .i64 (x.v.kind), .int .i64 (x.v.n), .string ⟨x.v.s.toArray⟩, .slice ax x.sp.length cx]]) rfl (by kernel_rfl) (by kernel_rfl) ?_ AllReadyH.nil
          refine fcompare_any p x _ _ wq1 _ (fun wq2 hB => ?_)
          refine ⟨_, rfl, hHeld.trans (hB.mono hHeld.size), ?_⟩
          have hHeld2 := hHeld.trans (hB.mono hHeld.size)
          clear hHeld
          have hHeld := hHeld2
          clear hHeld2
          clear hB
          try simp only [Act.put, List.getElem_toArray, List.getElem_cons_succ, List.getElem_cons_zero, List.setIfInBounds_toArray, List.set_cons_zero, List.set_cons_succ]
          refine wpAnyH_take (i := 14) (v := .bool true) rfl (by kernel_rfl) (by kernel_rfl) (by kernel_rfl) (fun _ _ _ h => h) (Or.inl ⟨by rfl, ?_⟩) hHeld ?_
          · intro w' hSw; go_simp <;> omega
          try simp only [Act.put, List.getElem_toArray, List.getElem_cons_succ, List.getElem_cons_zero, List.setIfInBounds_toArray, List.set_cons_zero, List.set_cons_succ]
          refine wpAnyH_take (i := 15) (v := .bool true) rfl (by kernel_rfl) (by kernel_rfl) (by kernel_rfl) (fun _ _ _ h => h) (Or.inl ⟨by rfl, ?_⟩) hHeld ?_
          · intro w' hSw; go_simp <;> omega
          try simp only [Act.put, List.getElem_toArray, List.getElem_cons_succ, List.getElem_cons_zero, List.setIfInBounds_toArray, List.set_cons_zero, List.set_cons_succ]
          refine wpAnyH_take (i := 16) (v := .bool true) rfl (by kernel_rfl) (by kernel_rfl) (by kernel_rfl) (fun _ _ _ h => h) (Or.inl ⟨by rfl, ?_⟩) hHeld ?_
          · intro w' hSw; go_simp <;> omega
          try simp only [Act.put, List.getElem_toArray, List.getElem_cons_succ, List.getElem_cons_zero, List.setIfInBounds_toArray, List.set_cons_zero, List.set_cons_succ]
          have hHeld0 := hHeld
          refine wpAnyH_done (by kernel_rfl) ?_ _
          clear hHeld
          have HB7 := Lib.hid (HBa.out.trans (hHeld0.mono HBa.out.size))
          clear hHeld0
          go_wp2_with fail
          exact fin (hR _ HB7.out) (show Value.bool _ = Value.bool _ by rw [factsB_false hlt (by rw [Ho.out, Hj.out, hm]; simp; omega)])
      · clear hcc
        generalize hs : l[k] = x at *
        clear hs
        have k0 : (k : Int) ≤ 0 := by omega
        have hal := alloc_below wo (.cells #[.int .i64 x.e, .int .i64 x.a, .int .i64 x.v.kind, .int .i64 x.v.n, .string ⟨x.v.s.toArray⟩, .slice ax x.sp.length cx] 49)
        have hbk := Blk.new wo [.int .i64 x.e, .int .i64 x.a, .int .i64 x.v.kind, .int .i64 x.v.n, .string ⟨x.v.s.toArray⟩, .slice ax x.sp.length cx] 49 rfl
        go_upto_region 4 with fail
        generalize wo.alloc (.cells #[.int .i64 x.e, .int .i64 x.a, .int .i64 x.v.kind, .int .i64 x.v.n, .string ⟨x.v.s.toArray⟩, .slice ax x.sp.length cx] 49) = wa at *
        obtain ⟨y0, y1, y2, y3, y4, y5⟩ := hbk.cells.f6
        have hy1 := hbk.lt
        have hba : b < wa.heap.size := Nat.lt_of_lt_of_le hbw hal.size
        have HBa := Lib.hid (HB.out.trans (hal.mono hz))
        have hha : hi ≤ wa.heap.size := Nat.le_trans hhi HBa.out.size
        have hSp : Hid (∀ w', Below wa.heap.size wa w' → Spans lo hi w' (.slice ax x.sp.length cx) x.sp) := Lib.hid (fun w' h => Sl.below (Sl.below Hsv.out Sp.loc hal (by omega)) Sp.loc h hha)
        clear hal hbk h0 h1 h2 h3 h4 h5 Hsv
        cases hm : x.may
        ·
          refine wp_region_held_drew (S := fun w' => Below wa.heap.size wa w') (by kernel_rfl) (Below.drew (Below.refl _ _)) (fun hHeld => ?_)
          refine wpAnyH_take (i := 0) (v := .agg #[.int .i64 (x.e), .int .i64 (x.a), .int .i64 (x.v.kind), .int .i64 (x.v.n), .string ⟨x.v.s.toArray⟩, .slice ax x.sp.length cx]) rfl (by kernel_rfl) (by kernel_rfl) (by kernel_rfl) (fun _ _ _ h => h) (Or.inl ⟨by rfl, ?_⟩) hHeld ?_
          · intro w' hSw; have k0 := (World.cell?_of_block (hSw.block _ hy1)).trans y0; have k1 := (World.cell?_of_block (hSw.block _ hy1)).trans y1; have k2 := (World.cell?_of_block (hSw.block _ hy1)).trans y2; have k3 := (World.cell?_of_block (hSw.block _ hy1)).trans y3; have k4 := (World.cell?_of_block (hSw.block _ hy1)).trans y4; have k5 := (World.cell?_of_block (hSw.block _ hy1)).trans y5; go_simp
          try simp only [Act.put, List.getElem_toArray, List.getElem_cons_succ, List.getElem_cons_zero, List.setIfInBounds_toArray, List.set_cons_zero, List.set_cons_succ]
          refine wpAnyH_ready (rs := [1]) (by kernel_rfl) (by simp) ?_
          refine allCall (f := 67) (args := #[.agg #[.int .i64 (x.e), .int .i64 (x.a), .int .i64 (x.v.kind), .int .i64 (x.v.n), .string ⟨x.v.s.toArray⟩, .slice ax x.sp.length cx]]) rfl (by kernel_rfl) (by kernel_rfl) ?_ AllReadyH.nil
          refine fmay_any lo hi x (.slice ax x.sp.length cx) wa.drew (hSp.out _ hHeld) (Nat.le_trans hha hHeld.size) hxl _ (fun wq1 hB => ?_)
          rw [hm]
          refine ⟨_, rfl, hHeld.trans (hB.mono hHeld.size), ?_⟩
          have hHeld2 := hHeld.trans (hB.mono hHeld.size)
          clear hHeld
          have hHeld := hHeld2
          clear hHeld2
          clear hB
          try simp only [Act.put, List.getElem_toArray, List.getElem_cons_succ, List.getElem_cons_zero, List.setIfInBounds_toArray, List.set_cons_zero, List.set_cons_succ]
          refine wpAnyH_take (i := 2) (v := .bool true) rfl (by kernel_rfl) (by kernel_rfl) (by kernel_rfl) (fun _ _ _ h => h) (Or.inl ⟨by rfl, ?_⟩) hHeld ?_
          · intro w' hSw; go_simp <;> omega
          try simp only [Act.put, List.getElem_toArray, List.getElem_cons_succ, List.getElem_cons_zero, List.setIfInBounds_toArray, List.set_cons_zero, List.set_cons_succ]
          refine wpAnyH_take (i := 3) (v := .bool true) rfl (by kernel_rfl) (by kernel_rfl) (by kernel_rfl) (fun _ _ _ h => h) (Or.inl ⟨by rfl, ?_⟩) hHeld ?_
          · intro w' hSw; go_simp <;> omega
          try simp only [Act.put, List.getElem_toArray, List.getElem_cons_succ, List.getElem_cons_zero, List.setIfInBounds_toArray, List.set_cons_zero, List.set_cons_succ]
          refine wpAnyH_take (i := 4) (v := undef) rfl (by kernel_rfl) (by kernel_rfl) (by kernel_rfl) (fun _ _ _ h => h) (Or.inr ⟨by kernel_rfl, rfl⟩) hHeld ?_
          try simp only [Act.put, List.getElem_toArray, List.getElem_cons_succ, List.getElem_cons_zero, List.setIfInBounds_toArray, List.set_cons_zero, List.set_cons_succ]
          refine wpAnyH_take (i := 5) (v := undef) rfl (by kernel_rfl) (by kernel_rfl) (by kernel_rfl) (fun _ _ _ h => h) (Or.inr ⟨by kernel_rfl, rfl⟩) hHeld ?_
          try simp only [Act.put, List.getElem_toArray, List.getElem_cons_succ, List.getElem_cons_zero, List.setIfInBounds_toArray, List.set_cons_zero, List.set_cons_succ]
          refine wpAnyH_take (i := 6) (v := undef) rfl (by kernel_rfl) (by kernel_rfl) (by kernel_rfl) (fun _ _ _ h => h) (Or.inr ⟨by kernel_rfl, rfl⟩) hHeld ?_
          try simp only [Act.put, List.getElem_toArray, List.getElem_cons_succ, List.getElem_cons_zero, List.setIfInBounds_toArray, List.set_cons_zero, List.set_cons_succ]
          refine wpAnyH_take (i := 7) (v := undef) rfl (by kernel_rfl) (by kernel_rfl) (by kernel_rfl) (fun _ _ _ h => h) (Or.inr ⟨by kernel_rfl, rfl⟩) hHeld ?_
          try simp only [Act.put, List.getElem_toArray, List.getElem_cons_succ, List.getElem_cons_zero, List.setIfInBounds_toArray, List.set_cons_zero, List.set_cons_succ]
          refine wpAnyH_take (i := 8) (v := undef) rfl (by kernel_rfl) (by kernel_rfl) (by kernel_rfl) (fun _ _ _ h => h) (Or.inr ⟨by kernel_rfl, rfl⟩) hHeld ?_
          try simp only [Act.put, List.getElem_toArray, List.getElem_cons_succ, List.getElem_cons_zero, List.setIfInBounds_toArray, List.set_cons_zero, List.set_cons_succ]
          refine wpAnyH_take (i := 9) (v := undef) rfl (by kernel_rfl) (by kernel_rfl) (by kernel_rfl) (fun _ _ _ h => h) (Or.inr ⟨by kernel_rfl, rfl⟩) hHeld ?_
          try simp only [Act.put, List.getElem_toArray, List.getElem_cons_succ, List.getElem_cons_zero, List.setIfInBounds_toArray, List.set_cons_zero, List.set_cons_succ]
          refine wpAnyH_take (i := 10) (v := undef) rfl (by kernel_rfl) (by kernel_rfl) (by kernel_rfl) (fun _ _ _ h => h) (Or.inr ⟨by kernel_rfl, rfl⟩) hHeld ?_
          try simp only [Act.put, List.getElem_toArray, List.getElem_cons_succ, List.getElem_cons_zero, List.setIfInBounds_toArray, List.set_cons_zero, List.set_cons_succ]
          refine wpAnyH_take (i := 11) (v := undef) rfl (by kernel_rfl) (by kernel_rfl) (by kernel_rfl) (fun _ _ _ h => h) (Or.inr ⟨by kernel_rfl, rfl⟩) hHeld ?_
          try simp only [Act.put, List.getElem_toArray, List.getElem_cons_succ, List.getElem_cons_zero, List.setIfInBounds_toArray, List.set_cons_zero, List.set_cons_succ]
          refine wpAnyH_take (i := 12) (v := undef) rfl (by kernel_rfl) (by kernel_rfl) (by kernel_rfl) (fun _ _ _ h => h) (Or.inr ⟨by kernel_rfl, rfl⟩) hHeld ?_
          try simp only [Act.put, List.getElem_toArray, List.getElem_cons_succ, List.getElem_cons_zero, List.setIfInBounds_toArray, List.set_cons_zero, List.set_cons_succ]
          refine wpAnyH_take (i := 13) (v := undef) rfl (by kernel_rfl) (by kernel_rfl) (by kernel_rfl) (fun _ _ _ h => h) (Or.inr ⟨by kernel_rfl, rfl⟩) hHeld ?_
          try simp only [Act.put, List.getElem_toArray, List.getElem_cons_succ, List.getElem_cons_zero, List.setIfInBounds_toArray, List.set_cons_zero, List.set_cons_succ]
          refine wpAnyH_take (i := 14) (v := undef) rfl (by kernel_rfl) (by kernel_rfl) (by kernel_rfl) (fun _ _ _ h => h) (Or.inr ⟨by kernel_rfl, rfl⟩) hHeld ?_
          try simp only [Act.put, List.getElem_toArray, List.getElem_cons_succ, List.getElem_cons_zero, List.setIfInBounds_toArray, List.set_cons_zero, List.set_cons_succ]
          refine wpAnyH_take (i := 15) (v := undef) rfl (by kernel_rfl) (by kernel_rfl) (by kernel_rfl) (fun _ _ _ h => h) (Or.inr ⟨by kernel_rfl, rfl⟩) hHeld ?_
          try simp only [Act.put, List.getElem_toArray, List.getElem_cons_succ, List.getElem_cons_zero, List.setIfInBounds_toArray, List.set_cons_zero, List.set_cons_succ]
          refine wpAnyH_take (i := 16) (v := .bool true) rfl (by kernel_rfl) (by kernel_rfl) (by kernel_rfl) (fun _ _ _ h => h) (Or.inl ⟨by rfl, ?_⟩) hHeld ?_
          · intro w' hSw; go_simp <;> omega
          try simp only [Act.put, List.getElem_toArray, List.getElem_cons_succ, List.getElem_cons_zero, List.setIfInBounds_toArray, List.set_cons_zero, List.set_cons_succ]
          have hHeld0 := hHeld
          refine wpAnyH_done (by kernel_rfl) ?_ _
          clear hHeld
          have HB7 := Lib.hid (HBa.out.trans (hHeld0.mono HBa.out.size))
          clear hHeld0
          go_wp2_with fail
          exact fin (hR _ HB7.out) (show Value.bool _ = Value.bool _ by rw [factsB_false hlt (by rw [Ho.out, hm]; rfl)])
        ·
          refine wp_region_held_drew (S := fun w' => Below wa.heap.size wa w') (by kernel_rfl) (Below.drew (Below.refl _ _)) (fun hHeld => ?_)
          refine wpAnyH_take (i := 0) (v := .agg #[.int .i64 (x.e), .int .i64 (x.a), .int .i64 (x.v.kind), .int .i64 (x.v.n), .string ⟨x.v.s.toArray⟩, .slice ax x.sp.length cx]) rfl (by kernel_rfl) (by kernel_rfl) (by kernel_rfl) (fun _ _ _ h => h) (Or.inl ⟨by rfl, ?_⟩) hHeld ?_
          · intro w' hSw; have k0 := (World.cell?_of_block (hSw.block _ hy1)).trans y0; have k1 := (World.cell?_of_block (hSw.block _ hy1)).trans y1; have k2 := (World.cell?_of_block (hSw.block _ hy1)).trans y2; have k3 := (World.cell?_of_block (hSw.block _ hy1)).trans y3; have k4 := (World.cell?_of_block (hSw.block _ hy1)).trans y4; have k5 := (World.cell?_of_block (hSw.block _ hy1)).trans y5; go_simp
          try simp only [Act.put, List.getElem_toArray, List.getElem_cons_succ, List.getElem_cons_zero, List.setIfInBounds_toArray, List.set_cons_zero, List.set_cons_succ]
          refine wpAnyH_ready (rs := [1]) (by kernel_rfl) (by simp) ?_
          refine allCall (f := 67) (args := #[.agg #[.int .i64 (x.e), .int .i64 (x.a), .int .i64 (x.v.kind), .int .i64 (x.v.n), .string ⟨x.v.s.toArray⟩, .slice ax x.sp.length cx]]) rfl (by kernel_rfl) (by kernel_rfl) ?_ AllReadyH.nil
          refine fmay_any lo hi x (.slice ax x.sp.length cx) wa.drew (hSp.out _ hHeld) (Nat.le_trans hha hHeld.size) hxl _ (fun wq1 hB => ?_)
          rw [hm]
          refine ⟨_, rfl, hHeld.trans (hB.mono hHeld.size), ?_⟩
          have hHeld2 := hHeld.trans (hB.mono hHeld.size)
          clear hHeld
          have hHeld := hHeld2
          clear hHeld2
          clear hB
          try simp only [Act.put, List.getElem_toArray, List.getElem_cons_succ, List.getElem_cons_zero, List.setIfInBounds_toArray, List.set_cons_zero, List.set_cons_succ]
          refine wpAnyH_take (i := 2) (v := .bool false) rfl (by kernel_rfl) (by kernel_rfl) (by kernel_rfl) (fun _ _ _ h => h) (Or.inl ⟨by rfl, ?_⟩) hHeld ?_
          · intro w' hSw; go_simp <;> omega
          try simp only [Act.put, List.getElem_toArray, List.getElem_cons_succ, List.getElem_cons_zero, List.setIfInBounds_toArray, List.set_cons_zero, List.set_cons_succ]
          refine wpAnyH_take (i := 3) (v := .bool false) rfl (by kernel_rfl) (by kernel_rfl) (by kernel_rfl) (fun _ _ _ h => h) (Or.inl ⟨by rfl, ?_⟩) hHeld ?_
          · intro w' hSw; go_simp <;> omega
          try simp only [Act.put, List.getElem_toArray, List.getElem_cons_succ, List.getElem_cons_zero, List.setIfInBounds_toArray, List.set_cons_zero, List.set_cons_succ]
          refine wpAnyH_take (i := 4) (v := .int .i64 ((k : Int))) rfl (by kernel_rfl) (by kernel_rfl) (by kernel_rfl) (fun _ _ _ h => h) (Or.inl ⟨by rfl, ?_⟩) hHeld ?_
          · intro w' hSw; go_simp <;> omega
          try simp only [Act.put, List.getElem_toArray, List.getElem_cons_succ, List.getElem_cons_zero, List.setIfInBounds_toArray, List.set_cons_zero, List.set_cons_succ]
          refine wpAnyH_take (i := 5) (v := .bool false) rfl (by kernel_rfl) (by kernel_rfl) (by kernel_rfl) (fun _ _ _ h => h) (Or.inl ⟨by rfl, ?_⟩) hHeld ?_
          · intro w' hSw; go_simp <;> omega
          try simp only [Act.put, List.getElem_toArray, List.getElem_cons_succ, List.getElem_cons_zero, List.setIfInBounds_toArray, List.set_cons_zero, List.set_cons_succ]
          refine wpAnyH_take (i := 6) (v := .bool false) rfl (by kernel_rfl) (by kernel_rfl) (by kernel_rfl) (fun _ _ _ h => h) (Or.inl ⟨by rfl, ?_⟩) hHeld ?_
          · intro w' hSw; go_simp <;> omega
          try simp only [Act.put, List.getElem_toArray, List.getElem_cons_succ, List.getElem_cons_zero, List.setIfInBounds_toArray, List.set_cons_zero, List.set_cons_succ]
          refine wpAnyH_take (i := 7) (v := undef) rfl (by kernel_rfl) (by kernel_rfl) (by kernel_rfl) (fun _ _ _ h => h) (Or.inr ⟨by kernel_rfl, rfl⟩) hHeld ?_
          try simp only [Act.put, List.getElem_toArray, List.getElem_cons_succ, List.getElem_cons_zero, List.setIfInBounds_toArray, List.set_cons_zero, List.set_cons_succ]
          refine wpAnyH_take (i := 8) (v := undef) rfl (by kernel_rfl) (by kernel_rfl) (by kernel_rfl) (fun _ _ _ h => h) (Or.inr ⟨by kernel_rfl, rfl⟩) hHeld ?_
          try simp only [Act.put, List.getElem_toArray, List.getElem_cons_succ, List.getElem_cons_zero, List.setIfInBounds_toArray, List.set_cons_zero, List.set_cons_succ]
          refine wpAnyH_take (i := 9) (v := undef) rfl (by kernel_rfl) (by kernel_rfl) (by kernel_rfl) (fun _ _ _ h => h) (Or.inr ⟨by kernel_rfl, rfl⟩) hHeld ?_
          try simp only [Act.put, List.getElem_toArray, List.getElem_cons_succ, List.getElem_cons_zero, List.setIfInBounds_toArray, List.set_cons_zero, List.set_cons_succ]
          refine wpAnyH_take (i := 10) (v := undef) rfl (by kernel_rfl) (by kernel_rfl) (by kernel_rfl) (fun _ _ _ h => h) (Or.inr ⟨by kernel_rfl, rfl⟩) hHeld ?_
          try simp only [Act.put, List.getElem_toArray, List.getElem_cons_succ, List.getElem_cons_zero, List.setIfInBounds_toArray, List.set_cons_zero, List.set_cons_succ]
          refine wpAnyH_take (i := 11) (v := undef) rfl (by kernel_rfl) (by kernel_rfl) (by kernel_rfl) (fun _ _ _ h => h) (Or.inr ⟨by kernel_rfl, rfl⟩) hHeld ?_
          try simp only [Act.put, List.getElem_toArray, List.getElem_cons_succ, List.getElem_cons_zero, List.setIfInBounds_toArray, List.set_cons_zero, List.set_cons_succ]
          refine wpAnyH_take (i := 12) (v := undef) rfl (by kernel_rfl) (by kernel_rfl) (by kernel_rfl) (fun _ _ _ h => h) (Or.inr ⟨by kernel_rfl, rfl⟩) hHeld ?_
          try simp only [Act.put, List.getElem_toArray, List.getElem_cons_succ, List.getElem_cons_zero, List.setIfInBounds_toArray, List.set_cons_zero, List.set_cons_succ]
          refine wpAnyH_take (i := 13) (v := undef) rfl (by kernel_rfl) (by kernel_rfl) (by kernel_rfl) (fun _ _ _ h => h) (Or.inr ⟨by kernel_rfl, rfl⟩) hHeld ?_
          try simp only [Act.put, List.getElem_toArray, List.getElem_cons_succ, List.getElem_cons_zero, List.setIfInBounds_toArray, List.set_cons_zero, List.set_cons_succ]
          refine wpAnyH_take (i := 14) (v := undef) rfl (by kernel_rfl) (by kernel_rfl) (by kernel_rfl) (fun _ _ _ h => h) (Or.inr ⟨by kernel_rfl, rfl⟩) hHeld ?_
          try simp only [Act.put, List.getElem_toArray, List.getElem_cons_succ, List.getElem_cons_zero, List.setIfInBounds_toArray, List.set_cons_zero, List.set_cons_succ]
          refine wpAnyH_take (i := 15) (v := .bool false) rfl (by kernel_rfl) (by kernel_rfl) (by kernel_rfl) (fun _ _ _ h => h) (Or.inl ⟨by rfl, ?_⟩) hHeld ?_
          · intro w' hSw; go_simp <;> omega
          try simp only [Act.put, List.getElem_toArray, List.getElem_cons_succ, List.getElem_cons_zero, List.setIfInBounds_toArray, List.set_cons_zero, List.set_cons_succ]
          refine wpAnyH_take (i := 16) (v := .bool false) rfl (by kernel_rfl) (by kernel_rfl) (by kernel_rfl) (fun _ _ _ h => h) (Or.inl ⟨by rfl, ?_⟩) hHeld ?_
          · intro w' hSw; go_simp <;> omega
          try simp only [Act.put, List.getElem_toArray, List.getElem_cons_succ, List.getElem_cons_zero, List.setIfInBounds_toArray, List.set_cons_zero, List.set_cons_succ]
          have hHeld0 := hHeld
          refine wpAnyH_done (by kernel_rfl) ?_ _
          clear hHeld
          have HB7 := Lib.hid (HBa.out.trans (hHeld0.mono HBa.out.size))
          clear hHeld0
          go_wp2_with fail
          go_roundw
          case rel => exact ⟨k + 1, by omega, by go_num, fun j hj => by
            by_cases e : j = k
            · subst e; rw [Ho.out, hm]; simp; omega
            · exact Hyes.out j (by omega), HB7.out⟩
          case measure => simp [intOf]; omega
    · go_wp2_with fail
      exact fin (hR _ hB) (show Value.bool _ = Value.bool _ by rw [factsB_true (fun j hj => Hyes.out j (by omega))])
end Go.Proofs.Ytkcpanaojehgiaa
