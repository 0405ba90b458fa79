/- Rows of values in memory; which of two rows stands ahead. (Printed by rowa.py.) -/
import Derived.Test.YtpncblagjkbemaaRCmp
import Derived.Test.YtpncblagjkbemaaAll
import Derived.Sort.Grow
import Derived.Deep.CutBlock
import Derived.Deep.DeepCutAuto
namespace Go.Proofs.Ytpncblagjkbemaa
open Go.RowKit Go.Sort
set_option linter.unusedVariables false
set_option linter.unusedSimpArgs false

/-- A world that came of another one by draws and new blocks alone. -/
def Gw (w w' : World) : Prop := ∃ (q : Nat) (os : Array Obj), w' = grow (w.drewN q) os
theorem Gw.refl (w : World) : Gw w w := ⟨0, #[], by rw [grow_empty]; rfl⟩
theorem Gw.trans {a b c : World} (h : Gw a b) (k : Gw b c) : Gw a c := by
  obtain ⟨q, os, rfl⟩ := h
  obtain ⟨q2, os2, rfl⟩ := k
  exact ⟨q + q2, os ++ os2, by
    show grow (grow ((a.drewN q).drewN q2) os) os2 = _
    rw [grow_grow]
    congr 1
    simp [World.drewN, Nat.add_assoc]⟩
theorem Gw.alloc {a b : World} (h : Gw a b) (o : Obj) : Gw a (b.alloc o) := h.trans ⟨0, #[o], by rw [← alloc_eq_grow]; rfl⟩
theorem Gw.drew {a b : World} (h : Gw a b) : Gw a b.drew := h.trans ⟨1, #[], by rw [grow_empty]; rfl⟩
theorem Gw.drewN {a b : World} (h : Gw a b) (n : Nat) : Gw a (b.drewN n) := h.trans ⟨n, #[], by rw [grow_empty]⟩
theorem Gw.below {w w' : World} (h : Gw w w') : Below w.heap.size w w' := by
  obtain ⟨q, os, rfl⟩ := h
  refine ⟨rfl, rfl, rfl, ?_, fun k hk => ?_⟩
  · show w.heap.size ≤ (w.heap ++ os).size
    rw [Array.size_append]; omega
  · show (w.heap ++ os)[k]? = w.heap[k]?
    rw [Array.getElem?_append_left hk]
theorem Gw.size {w w' : World} (h : Gw w w') : w.heap.size ≤ w'.heap.size := h.below.size
/-- A row: a slice of values. -/
abbrev Row1 := Sl (flat V.enc) 3
theorem Row1.loc : Loc (flat V.enc) := flat_loc _
def rowE : El (List V) := fun lo hi w cs x => ∃ sv, cs = [sv] ∧ Row1 lo hi w sv x
theorem rowE_loc : Loc rowE where
  agree h ha := by
    obtain ⟨sv, e, hs⟩ := h
    exact ⟨sv, e, hs.agree Row1.loc ha⟩
  mono h h1 h2 := by
    obtain ⟨sv, e, hs⟩ := h
    exact ⟨sv, e, hs.mono Row1.loc h1 h2⟩
abbrev Rws := Sl rowE 1
def cmpR : List V → List V → Int
  | [], [] => 0
  | [], _ :: _ => -1
  | _ :: _, [] => 1
  | a :: x, b :: y => if cmpV a b = 0 then cmpR x y else cmpV a b
theorem cmpR_drop {x y : List V} {k : Nat} (hx : k < x.length) (hy : k < y.length) : cmpR (x.drop k) (y.drop k) = if cmpV x[k] y[k] = 0 then cmpR (x.drop (k + 1)) (y.drop (k + 1)) else cmpV x[k] y[k] := by
  rw [List.drop_eq_getElem_cons hx, List.drop_eq_getElem_cons hy, cmpR]
theorem cmpR_end {x y : List V} {k : Nat} (h : k = x.length ∨ k = y.length) (hx : k ≤ x.length) (hy : k ≤ y.length) : cmpR (x.drop k) (y.drop k) = icmp x.length y.length := by
  unfold icmp
  rcases h with rfl | rfl
  · rw [List.drop_length]
    cases hd : y.drop x.length with
    | nil =>
      have := congrArg List.length hd
      rw [List.length_drop, List.length_nil] at this
      rw [cmpR, if_neg (by omega), if_neg (by omega)]
    | cons a r =>
      have := congrArg List.length hd
      rw [List.length_drop, List.length_cons] at this
      rw [cmpR, if_pos (by omega)]
  · rw [List.drop_length]
    cases hd : x.drop y.length with
    | nil =>
      have := congrArg List.length hd
      rw [List.length_drop, List.length_nil] at this
      rw [cmpR, if_neg (by omega), if_neg (by omega)]
    | cons a r =>
      have := congrArg List.length hd
      rw [List.length_drop, List.length_cons] at this
      rw [cmpR, if_neg (by omega), if_pos (by omega)]
set_option maxHeartbeats 1000000 in
set_option maxRecDepth 100000 in
theorem CompareG_any (a b : V) (w : World) (R : Ending → World → Prop) (hR : ∀ w', Gw w w' → R (.returned (.int .i64 (cmpV a b))) w') :
    Calls Try.prog 64 #[.agg #[.int .i64 a.kind, .int .i64 a.n, .string ⟨a.s.toArray⟩], .agg #[.int .i64 b.kind, .int .i64 b.n, .string ⟨b.s.toArray⟩]] w R := by
  go_enter Try.func64, Try.ntmps64
  go_wp2_with fail
  refine wp_region_still_tail 15 (by kernel_rfl) (by kernel_rfl) ?_
  change wpStill _ _ (World.drew _) (fun a' => wpList _ _ _ _ a' (World.drew _)) _ _
  simp only [List.take_succ_cons, List.take_zero, List.drop_succ_cons, List.drop_zero]
  repeat still_step
  still_call (cmp_int _ _ _ _ ⟨rfl, rfl⟩)
  repeat still_step
  still_call (cmp_int64 _ _ _ _ ⟨rfl, rfl⟩)
  repeat still_step
  still_call (strings_Compare _ _ _ _ ⟨rfl, rfl⟩)
  refine wpStill_nil ?_
  go_wp2_with fail
  refine Or3 _ _ _ _ _ ((CellsAt.newAt _ [.int .i64 (icmp a.kind b.kind), .int .i64 (icmp a.n b.n), .int .i64 (Lib.compareBytes a.s b.s)] _ (by simp)).drew) _ ?_
  have e : or3 (icmp a.kind b.kind) (icmp a.n b.n) (Lib.compareBytes a.s b.s) = cmpV a b := rfl
  rw [e]
  go_wp2_with fail
  exact (((Gw.refl _).alloc _).alloc _).alloc _ |>.drew
set_option maxRecDepth 100000 in
set_option maxHeartbeats 4000000 in
theorem refRowsCompare_any (lo hi lo2 hi2 : Nat) (x y : List V) (vx vy : Value) (w : World) (hx : Row1 lo hi w vx x) (hy : Row1 lo2 hi2 w vy y) (hhi : hi ≤ w.heap.size) (hhi2 : hi2 ≤ w.heap.size) (hsx : ∀ a ∈ x, a.s.length ≤ 9223372036854775807) (hsy : ∀ a ∈ y, a.s.length ≤ 9223372036854775807) (R : Ending → World → Prop)
    (hR : ∀ w', Below w.heap.size w w' → R (.returned (.int .i64 (cmpR x y))) w') : Calls Try.prog 25 #[vx, vy] w R := by
  have HR := Lib.hid hR
  have Hx := Lib.hid hx
  have Hy := Lib.hid hy
  obtain ⟨ax, cx, rfl, -, hxc, -, -⟩ := hx.form
  obtain ⟨ay, cy, rfl, -, hyc, -, -⟩ := hy.form
  have hxl := hx.len
  have hyl := hy.len
  have Hsx := Lib.hid hsx
  have Hsy := Lib.hid hsy
  clear hsx hsy
  clear hR hx hy
  go_enter Try.func25, Try.ntmps25
  go_wp2_with fail
  go_loopw [5] (fun t5 wr => ∃ k : Nat, k ≤ x.length ∧ k ≤ y.length ∧ t5 = .int .i64 k ∧ cmpR x y = cmpR (x.drop k) (y.drop k) ∧ Below w.heap.size w wr) (fun t5 _ => x.length - (intOf t5).toNat)
  case atStart => exact ⟨0, Nat.zero_le _, Nat.zero_le _, rfl, rfl, Below.refl _ _⟩
  case round =>
    obtain ⟨k, hkx, hky, rfl, heq, hB⟩ := hrel
    obtain ⟨wo, ewo⟩ : ∃ x, x = wr := ⟨_, rfl⟩
    subst ewo
    have Heq := Lib.hid heq
    have HB := Lib.hid hB
    have hz := hB.size
    have kk0 : (0 : Int) ≤ (k : Int) := by omega
    clear heq hB
    by_cases hlx : k < x.length
    · by_cases hly : k < y.length
      · obtain ⟨ao', cap', e', -, -, -, hc⟩ := (Sl.below Hx.out Row1.loc HB.out hhi).form
        injection e' with e1 e2 e3
        subst e1 e3
        obtain ⟨bx, ox, rfl, hb1, hb2, hcc⟩ := hc k hlx
        obtain ⟨cs, _, hcs, rfl⟩ := hcc k hlx
        have Hca := Lib.hid hcs
        clear hcs hcc hc
        obtain ⟨ao', cap', e', -, -, -, hc⟩ := (Sl.below Hy.out Row1.loc HB.out hhi2).form
        injection e' with e1 e2 e3
        subst e1 e3
        obtain ⟨by_, oy, rfl, hb3, hb4, hcc⟩ := hc k hly
        obtain ⟨cs, _, hcs, rfl⟩ := hcc k hly
        have Hcb := Lib.hid hcs
        have hbxw : bx < wo.heap.size := by omega
        have hbyw : by_ < wo.heap.size := by omega
        have klx : (k : Int) < (x.length : Int) := by omega
        have kly : (k : Int) < (y.length : Int) := by omega
        have Hst := Lib.hid (Heq.out.trans (cmpR_drop hlx hly))
        have Hma : Hid (x[k] ∈ x) := Lib.hid (List.getElem_mem hlx)
        have Hmb : Hid (y[k] ∈ y) := Lib.hid (List.getElem_mem hly)
        clear hcs hcc hc
        generalize x[k] = a at *
        generalize y[k] = b at *
        skip
        go_wp2_with fail
        go_upto_region 4 with fail
        have hS0 : Below wo.heap.size wo wo.drew := (Below.refl _ _).drew
        refine wp_region_held_drew (S := fun w' => Below wo.heap.size wo w') (by kernel_rfl) hS0 (fun hHeld => ?_)
        refine wpAnyH_take (i := 0) (v := .slice (some ⟨bx, ox, none⟩) x.length cx) rfl (by kernel_rfl) (by kernel_rfl) (by kernel_rfl) (fun _ _ _ h => h) (Or.inl ⟨by rfl, ?_⟩) hHeld ?_
        · intro w' hSw; go_simp
        try simp only [Act.put, List.getElem_toArray, List.getElem_cons_succ, List.getElem_cons_zero, List.setIfInBounds_toArray, List.set_cons_zero, List.set_cons_succ]
        refine wpAnyH_take (i := 1) (v := .int .i64 ((k : Int))) rfl (by kernel_rfl) (by kernel_rfl) (by kernel_rfl) (fun _ _ _ h => h) (Or.inl ⟨by rfl, ?_⟩) hHeld ?_
        · intro w' hSw; go_simp
        try simp only [Act.put, List.getElem_toArray, List.getElem_cons_succ, List.getElem_cons_zero, List.setIfInBounds_toArray, List.set_cons_zero, List.set_cons_succ]
        refine wpAnyH_take (i := 2) (v := .pointer (some ⟨bx, ox + k * 3, none⟩)) rfl (by kernel_rfl) (by kernel_rfl) (by kernel_rfl) (fun _ _ _ h => h) (Or.inl ⟨by rfl, ?_⟩) hHeld ?_
        · intro w' hSw; go_simp
        try simp only [Act.put, List.getElem_toArray, List.getElem_cons_succ, List.getElem_cons_zero, List.setIfInBounds_toArray, List.set_cons_zero, List.set_cons_succ]
        refine wpAnyH_take (i := 3) (v := .agg #[.int .i64 (a.kind), .int .i64 (a.n), .string ⟨a.s.toArray⟩]) rfl (by kernel_rfl) (by kernel_rfl) (by kernel_rfl) (fun _ _ _ h => h) (Or.inl ⟨by rfl, ?_⟩) hHeld ?_
        · intro w' hSw; obtain ⟨z0, z1, z2⟩ := (Hca.out.agree (.below hSw (Nat.le_refl _)) (Nat.zero_le _) hbxw).c3; go_simp
        try simp only [Act.put, List.getElem_toArray, List.getElem_cons_succ, List.getElem_cons_zero, List.setIfInBounds_toArray, List.set_cons_zero, List.set_cons_succ]
        refine wpAnyH_take (i := 4) (v := .slice (some ⟨by_, oy, none⟩) y.length cy) rfl (by kernel_rfl) (by kernel_rfl) (by kernel_rfl) (fun _ _ _ h => h) (Or.inl ⟨by rfl, ?_⟩) hHeld ?_
        · intro w' hSw; go_simp
        try simp only [Act.put, List.getElem_toArray, List.getElem_cons_succ, List.getElem_cons_zero, List.setIfInBounds_toArray, List.set_cons_zero, List.set_cons_succ]
        refine wpAnyH_take (i := 5) (v := .int .i64 ((k : Int))) rfl (by kernel_rfl) (by kernel_rfl) (by kernel_rfl) (fun _ _ _ h => h) (Or.inl ⟨by rfl, ?_⟩) hHeld ?_
        · intro w' hSw; go_simp
        try simp only [Act.put, List.getElem_toArray, List.getElem_cons_succ, List.getElem_cons_zero, List.setIfInBounds_toArray, List.set_cons_zero, List.set_cons_succ]
        refine wpAnyH_take (i := 6) (v := .pointer (some ⟨by_, oy + k * 3, none⟩)) rfl (by kernel_rfl) (by kernel_rfl) (by kernel_rfl) (fun _ _ _ h => h) (Or.inl ⟨by rfl, ?_⟩) hHeld ?_
        · intro w' hSw; go_simp
        try simp only [Act.put, List.getElem_toArray, List.getElem_cons_succ, List.getElem_cons_zero, List.setIfInBounds_toArray, List.set_cons_zero, List.set_cons_succ]
        refine wpAnyH_take (i := 7) (v := .agg #[.int .i64 (b.kind), .int .i64 (b.n), .string ⟨b.s.toArray⟩]) rfl (by kernel_rfl) (by kernel_rfl) (by kernel_rfl) (fun _ _ _ h => h) (Or.inl ⟨by rfl, ?_⟩) hHeld ?_
        · intro w' hSw; obtain ⟨z0, z1, z2⟩ := (Hcb.out.agree (.below hSw (Nat.le_refl _)) (Nat.zero_le _) hbyw).c3; go_simp
        try simp only [Act.put, List.getElem_toArray, List.getElem_cons_succ, List.getElem_cons_zero, List.setIfInBounds_toArray, List.set_cons_zero, List.set_cons_succ]
        refine wpAnyH_ready (rs := [8]) (by kernel_rfl) (by simp) ?_
        refine allCall (f := 66) (args := #[.agg #[.int .i64 a.kind, .int .i64 a.n, .string ⟨a.s.toArray⟩], .agg #[.int .i64 b.kind, .int .i64 b.n, .string ⟨b.s.toArray⟩]]) rfl (by kernel_rfl) (by kernel_rfl) ?_ AllReadyH.nil
        refine refCompare_any a b _ (Hsx.out _ Hma.out) (Hsy.out _ Hmb.out) _ (fun w5 hB5 => ?_)
        refine ⟨_, rfl, hS0.trans (hB5.mono (Nat.le_refl _)), ?_⟩
        have HB5 := Lib.hid (hS0.trans (hB5.mono (Nat.le_refl _)))
        clear hB5 hHeld
        have hHeld := HB5.out
        try simp only [Act.put, List.getElem_toArray, List.getElem_cons_succ, List.getElem_cons_zero, List.setIfInBounds_toArray, List.set_cons_zero, List.set_cons_succ]
        refine wpAnyH_take (i := 9) (v := .int .i64 ((cmpV a b))) rfl (by kernel_rfl) (by kernel_rfl) (by kernel_rfl) (fun _ _ _ h => h) (Or.inl ⟨by rfl, ?_⟩) hHeld ?_
        · intro w' hSw; go_simp
        try simp only [Act.put, List.getElem_toArray, List.getElem_cons_succ, List.getElem_cons_zero, List.setIfInBounds_toArray, List.set_cons_zero, List.set_cons_succ]
        refine wpAnyH_done (by kernel_rfl) ?_ _
        clear hHeld
        by_cases h0 : cmpV a b = 0
        · have Hn := Hst.out
          rw [if_pos h0] at Hn
          have Hn := Lib.hid Hn
          have g0 : (cmpV a b != 0) = false := by simp [h0]
          generalize cmpV a b = cv at *
          clear h0
          go_wp2_with fail
          go_roundw
          case rel => exact ⟨k + 1, by omega, by omega, by go_num, Hn.out, HB.out.trans (HB5.out.mono hz)⟩
          case measure => simp [intOf]; omega
        · have hr := HR.out w5 (HB.out.trans (HB5.out.mono hz))
          have Hn := Hst.out
          rw [if_neg h0] at Hn
          rw [Hn] at hr
          clear Hn
          have g0 : (cmpV a b != 0) = true := by simp [h0]
          generalize cmpV a b = cv at *
          go_wp2_with fail
          first | exact hr | exact fin hr rfl
      · obtain rfl : k = y.length := by omega
        have hr := HR.out wo HB.out
        rw [Heq.out, cmpR_end (.inr rfl) hkx (Nat.le_refl _)] at hr
        have c1 : (y.length : Int) < (x.length : Int) := by omega
        have c2 : ¬ (x.length : Int) < (y.length : Int) := by omega
        rw [icmp_gt c1] at hr
        go_wp2_with fail
        first | exact hr | exact fin hr rfl
    · obtain rfl : k = x.length := by omega
      have hr := HR.out wo HB.out
      rw [Heq.out, cmpR_end (.inl rfl) (Nat.le_refl _) hky] at hr
      have kx : ¬ ((x.length : Nat) : Int) < (x.length : Int) := by omega
      by_cases hxy : x.length < y.length
      · rw [icmp_lt (show (x.length : Int) < (y.length : Int) by omega)] at hr
        have c1 : (x.length : Int) < (y.length : Int) := by omega
        go_wp2_with fail
        first | exact hr | exact fin hr rfl
      · rw [show icmp (x.length : Int) (y.length : Int) = 0 by unfold icmp; rw [if_neg (by omega), if_neg (by omega)]] at hr
        have c1 : ¬ (x.length : Int) < (y.length : Int) := by omega
        have c2 : ¬ (y.length : Int) < (x.length : Int) := by omega
        go_wp2_with fail
        first | exact hr | exact fin hr rfl
def rowsCmpSays (lt : Bool) : Prop := ∀ (lo hi lo2 hi2 : Nat) (x y : List V) (vx vy : Value) (w : World) (hx : Row1 lo hi w vx x) (hy : Row1 lo2 hi2 w vy y) (hhi : hi ≤ w.heap.size) (hhi2 : hi2 ≤ w.heap.size) (hlt : decide (y.length < x.length) = lt) (R : Ending → World → Prop)
    (hR : ∀ w', Gw w w' → R (.returned (.int .i64 (cmpR x y))) w'), Calls Try.prog 24 #[vx, vy] w R
set_option maxRecDepth 100000 in
set_option maxHeartbeats 4000000 in
theorem rowsCompare_true : rowsCmpSays true := by
  intro lo hi lo2 hi2 x y vx vy w hx hy hhi hhi2 hlt R hR
  have hlt := of_decide_eq_true hlt
  have hci : ((y.length : Int) < (x.length : Int)) := by omega
  have HR := Lib.hid hR
  have Hx := Lib.hid hx
  have Hy := Lib.hid hy
  obtain ⟨ax, cx, rfl, -, hxc, -, -⟩ := hx.form
  obtain ⟨ay, cy, rfl, -, hyc, -, -⟩ := hy.form
  have hxl := hx.len
  have hyl := hy.len
  skip
  clear hR hx hy
  go_enter Try.func24, Try.ntmps24
  go_wp2_with fail
  go_loopw [12] (fun t12 wr => ∃ k : Nat, k ≤ x.length ∧ k ≤ y.length ∧ t12 = .int .i64 k ∧ cmpR x y = cmpR (x.drop k) (y.drop k) ∧ Gw w wr) (fun t12 _ => x.length - (intOf t12).toNat)
  case atStart => exact ⟨0, Nat.zero_le _, Nat.zero_le _, rfl, rfl, Gw.refl _⟩
  case round =>
    obtain ⟨k, hkx, hky, rfl, heq, hB⟩ := hrel
    obtain ⟨wo, ewo⟩ : ∃ x, x = wr := ⟨_, rfl⟩
    subst ewo
    have Heq := Lib.hid heq
    have HB := Lib.hid hB
    have hz := hB.size
    have kk0 : (0 : Int) ≤ (k : Int) := by omega
    clear heq hB
    by_cases hlx : k < x.length
    · by_cases hly : k < y.length
      · obtain ⟨ao', cap', e', -, -, -, hc⟩ := (Sl.below Hx.out Row1.loc HB.out.below hhi).form
        injection e' with e1 e2 e3
        subst e1 e3
        obtain ⟨bx, ox, rfl, hb1, hb2, hcc⟩ := hc k hlx
        obtain ⟨cs, _, hcs, rfl⟩ := hcc k hlx
        have Hca := Lib.hid hcs
        clear hcs hcc hc
        obtain ⟨ao', cap', e', -, -, -, hc⟩ := (Sl.below Hy.out Row1.loc HB.out.below hhi2).form
        injection e' with e1 e2 e3
        subst e1 e3
        obtain ⟨by_, oy, rfl, hb3, hb4, hcc⟩ := hc k hly
        obtain ⟨cs, _, hcs, rfl⟩ := hcc k hly
        have Hcb := Lib.hid hcs
        have hbxw : bx < wo.heap.size := by omega
        have hbyw : by_ < wo.heap.size := by omega
        have klx : (k : Int) < (x.length : Int) := by omega
        have kly : (k : Int) < (y.length : Int) := by omega
        have Hst := Lib.hid (Heq.out.trans (cmpR_drop hlx hly))
        skip
        clear hcs hcc hc
        generalize x[k] = a at *
        generalize y[k] = b at *
        skip
        go_wp2_with fail
        go_upto_region 4 with fail
        have hS0 : Gw wo wo.drew := (Gw.refl _).drew
        refine wp_region_held_drew (S := fun w' => Gw wo w') (by kernel_rfl) hS0 (fun hHeld => ?_)
        refine wpAnyH_take (i := 0) (v := .slice (some ⟨bx, ox, none⟩) x.length cx) rfl (by kernel_rfl) (by kernel_rfl) (by kernel_rfl) (fun _ _ _ h => h) (Or.inl ⟨by rfl, ?_⟩) hHeld ?_
        · intro w' hSw; go_simp
        try simp only [Act.put, List.getElem_toArray, List.getElem_cons_succ, List.getElem_cons_zero, List.setIfInBounds_toArray, List.set_cons_zero, List.set_cons_succ]
        refine wpAnyH_take (i := 1) (v := .int .i64 ((k : Int))) rfl (by kernel_rfl) (by kernel_rfl) (by kernel_rfl) (fun _ _ _ h => h) (Or.inl ⟨by rfl, ?_⟩) hHeld ?_
        · intro w' hSw; go_simp
        try simp only [Act.put, List.getElem_toArray, List.getElem_cons_succ, List.getElem_cons_zero, List.setIfInBounds_toArray, List.set_cons_zero, List.set_cons_succ]
        refine wpAnyH_take (i := 2) (v := .pointer (some ⟨bx, ox + k * 3, none⟩)) rfl (by kernel_rfl) (by kernel_rfl) (by kernel_rfl) (fun _ _ _ h => h) (Or.inl ⟨by rfl, ?_⟩) hHeld ?_
        · intro w' hSw; go_simp
        try simp only [Act.put, List.getElem_toArray, List.getElem_cons_succ, List.getElem_cons_zero, List.setIfInBounds_toArray, List.set_cons_zero, List.set_cons_succ]
        refine wpAnyH_take (i := 3) (v := .agg #[.int .i64 (a.kind), .int .i64 (a.n), .string ⟨a.s.toArray⟩]) rfl (by kernel_rfl) (by kernel_rfl) (by kernel_rfl) (fun _ _ _ h => h) (Or.inl ⟨by rfl, ?_⟩) hHeld ?_
        · intro w' hSw; obtain ⟨z0, z1, z2⟩ := (Hca.out.agree (.below hSw.below (Nat.le_refl _)) (Nat.zero_le _) hbxw).c3; go_simp
        try simp only [Act.put, List.getElem_toArray, List.getElem_cons_succ, List.getElem_cons_zero, List.setIfInBounds_toArray, List.set_cons_zero, List.set_cons_succ]
        refine wpAnyH_take (i := 4) (v := .slice (some ⟨by_, oy, none⟩) y.length cy) rfl (by kernel_rfl) (by kernel_rfl) (by kernel_rfl) (fun _ _ _ h => h) (Or.inl ⟨by rfl, ?_⟩) hHeld ?_
        · intro w' hSw; go_simp
        try simp only [Act.put, List.getElem_toArray, List.getElem_cons_succ, List.getElem_cons_zero, List.setIfInBounds_toArray, List.set_cons_zero, List.set_cons_succ]
        refine wpAnyH_take (i := 5) (v := .int .i64 ((k : Int))) rfl (by kernel_rfl) (by kernel_rfl) (by kernel_rfl) (fun _ _ _ h => h) (Or.inl ⟨by rfl, ?_⟩) hHeld ?_
        · intro w' hSw; go_simp
        try simp only [Act.put, List.getElem_toArray, List.getElem_cons_succ, List.getElem_cons_zero, List.setIfInBounds_toArray, List.set_cons_zero, List.set_cons_succ]
        refine wpAnyH_take (i := 6) (v := .pointer (some ⟨by_, oy + k * 3, none⟩)) rfl (by kernel_rfl) (by kernel_rfl) (by kernel_rfl) (fun _ _ _ h => h) (Or.inl ⟨by rfl, ?_⟩) hHeld ?_
        · intro w' hSw; go_simp
        try simp only [Act.put, List.getElem_toArray, List.getElem_cons_succ, List.getElem_cons_zero, List.setIfInBounds_toArray, List.set_cons_zero, List.set_cons_succ]
        refine wpAnyH_take (i := 7) (v := .agg #[.int .i64 (b.kind), .int .i64 (b.n), .string ⟨b.s.toArray⟩]) rfl (by kernel_rfl) (by kernel_rfl) (by kernel_rfl) (fun _ _ _ h => h) (Or.inl ⟨by rfl, ?_⟩) hHeld ?_
        · intro w' hSw; obtain ⟨z0, z1, z2⟩ := (Hcb.out.agree (.below hSw.below (Nat.le_refl _)) (Nat.zero_le _) hbyw).c3; go_simp
        try simp only [Act.put, List.getElem_toArray, List.getElem_cons_succ, List.getElem_cons_zero, List.setIfInBounds_toArray, List.set_cons_zero, List.set_cons_succ]
        refine wpAnyH_ready (rs := [8]) (by kernel_rfl) (by simp) ?_
        refine allCall (f := 64) (args := #[.agg #[.int .i64 a.kind, .int .i64 a.n, .string ⟨a.s.toArray⟩], .agg #[.int .i64 b.kind, .int .i64 b.n, .string ⟨b.s.toArray⟩]]) rfl (by kernel_rfl) (by kernel_rfl) ?_ AllReadyH.nil
        refine CompareG_any a b _ _ (fun w5 hB5 => ?_)
        refine ⟨_, rfl, hS0.trans hB5, ?_⟩
        have HB5 := Lib.hid (hS0.trans hB5)
        clear hB5 hHeld
        have hHeld := HB5.out
        try simp only [Act.put, List.getElem_toArray, List.getElem_cons_succ, List.getElem_cons_zero, List.setIfInBounds_toArray, List.set_cons_zero, List.set_cons_succ]
        refine wpAnyH_take (i := 9) (v := .int .i64 ((cmpV a b))) rfl (by kernel_rfl) (by kernel_rfl) (by kernel_rfl) (fun _ _ _ h => h) (Or.inl ⟨by rfl, ?_⟩) hHeld ?_
        · intro w' hSw; go_simp
        try simp only [Act.put, List.getElem_toArray, List.getElem_cons_succ, List.getElem_cons_zero, List.setIfInBounds_toArray, List.set_cons_zero, List.set_cons_succ]
        refine wpAnyH_done (by kernel_rfl) ?_ _
        clear hHeld
        by_cases h0 : cmpV a b = 0
        · have Hn := Hst.out
          rw [if_pos h0] at Hn
          have Hn := Lib.hid Hn
          have g0 : (cmpV a b != 0) = false := by simp [h0]
          generalize cmpV a b = cv at *
          clear h0
          go_wp2_with fail
          go_roundw
          case rel => exact ⟨k + 1, by omega, by omega, by go_num, Hn.out, HB.out.trans HB5.out⟩
          case measure => simp [intOf]; omega
        · have hr := HR.out w5 (HB.out.trans HB5.out)
          have Hn := Hst.out
          rw [if_neg h0] at Hn
          rw [Hn] at hr
          clear Hn
          have g0 : (cmpV a b != 0) = true := by simp [h0]
          generalize cmpV a b = cv at *
          go_wp2_with fail
          first | exact hr | exact fin hr rfl
      · obtain rfl : k = y.length := by omega
        have hr := HR.out wo HB.out
        rw [Heq.out, cmpR_end (.inr rfl) hkx (Nat.le_refl _)] at hr
        have klx : ¬ ((y.length : Nat) : Int) < (y.length : Int) := by omega
        go_wp2_with fail
        refine cmp_int _ _ _ _ ?_
        go_wp2_with fail
        first | exact hr | exact fin hr rfl
    · exact absurd hkx (by omega)
set_option maxRecDepth 100000 in
set_option maxHeartbeats 4000000 in
theorem rowsCompare_false : rowsCmpSays false := by
  intro lo hi lo2 hi2 x y vx vy w hx hy hhi hhi2 hlt R hR
  have hlt := of_decide_eq_false hlt
  have hci : ¬ ((y.length : Int) < (x.length : Int)) := by omega
  have HR := Lib.hid hR
  have Hx := Lib.hid hx
  have Hy := Lib.hid hy
  obtain ⟨ax, cx, rfl, -, hxc, -, -⟩ := hx.form
  obtain ⟨ay, cy, rfl, -, hyc, -, -⟩ := hy.form
  have hxl := hx.len
  have hyl := hy.len
  skip
  clear hR hx hy
  go_enter Try.func24, Try.ntmps24
  go_wp2_with fail
  go_loopw [12] (fun t12 wr => ∃ k : Nat, k ≤ x.length ∧ k ≤ y.length ∧ t12 = .int .i64 k ∧ cmpR x y = cmpR (x.drop k) (y.drop k) ∧ Gw w wr) (fun t12 _ => x.length - (intOf t12).toNat)
  case atStart => exact ⟨0, Nat.zero_le _, Nat.zero_le _, rfl, rfl, Gw.refl _⟩
  case round =>
    obtain ⟨k, hkx, hky, rfl, heq, hB⟩ := hrel
    obtain ⟨wo, ewo⟩ : ∃ x, x = wr := ⟨_, rfl⟩
    subst ewo
    have Heq := Lib.hid heq
    have HB := Lib.hid hB
    have hz := hB.size
    have kk0 : (0 : Int) ≤ (k : Int) := by omega
    clear heq hB
    by_cases hlx : k < x.length
    · by_cases hly : k < y.length
      · obtain ⟨ao', cap', e', -, -, -, hc⟩ := (Sl.below Hx.out Row1.loc HB.out.below hhi).form
        injection e' with e1 e2 e3
        subst e1 e3
        obtain ⟨bx, ox, rfl, hb1, hb2, hcc⟩ := hc k hlx
        obtain ⟨cs, _, hcs, rfl⟩ := hcc k hlx
        have Hca := Lib.hid hcs
        clear hcs hcc hc
        obtain ⟨ao', cap', e', -, -, -, hc⟩ := (Sl.below Hy.out Row1.loc HB.out.below hhi2).form
        injection e' with e1 e2 e3
        subst e1 e3
        obtain ⟨by_, oy, rfl, hb3, hb4, hcc⟩ := hc k hly
        obtain ⟨cs, _, hcs, rfl⟩ := hcc k hly
        have Hcb := Lib.hid hcs
        have hbxw : bx < wo.heap.size := by omega
        have hbyw : by_ < wo.heap.size := by omega
        have klx : (k : Int) < (x.length : Int) := by omega
        have kly : (k : Int) < (y.length : Int) := by omega
        have Hst := Lib.hid (Heq.out.trans (cmpR_drop hlx hly))
        skip
        clear hcs hcc hc
        generalize x[k] = a at *
        generalize y[k] = b at *
        skip
        go_wp2_with fail
        go_upto_region 4 with fail
        have hS0 : Gw wo wo.drew := (Gw.refl _).drew
        refine wp_region_held_drew (S := fun w' => Gw wo w') (by kernel_rfl) hS0 (fun hHeld => ?_)
        refine wpAnyH_take (i := 0) (v := .slice (some ⟨bx, ox, none⟩) x.length cx) rfl (by kernel_rfl) (by kernel_rfl) (by kernel_rfl) (fun _ _ _ h => h) (Or.inl ⟨by rfl, ?_⟩) hHeld ?_
        · intro w' hSw; go_simp
        try simp only [Act.put, List.getElem_toArray, List.getElem_cons_succ, List.getElem_cons_zero, List.setIfInBounds_toArray, List.set_cons_zero, List.set_cons_succ]
        refine wpAnyH_take (i := 1) (v := .int .i64 ((k : Int))) rfl (by kernel_rfl) (by kernel_rfl) (by kernel_rfl) (fun _ _ _ h => h) (Or.inl ⟨by rfl, ?_⟩) hHeld ?_
        · intro w' hSw; go_simp
        try simp only [Act.put, List.getElem_toArray, List.getElem_cons_succ, List.getElem_cons_zero, List.setIfInBounds_toArray, List.set_cons_zero, List.set_cons_succ]
        refine wpAnyH_take (i := 2) (v := .pointer (some ⟨bx, ox + k * 3, none⟩)) rfl (by kernel_rfl) (by kernel_rfl) (by kernel_rfl) (fun _ _ _ h => h) (Or.inl ⟨by rfl, ?_⟩) hHeld ?_
        · intro w' hSw; go_simp
        try simp only [Act.put, List.getElem_toArray, List.getElem_cons_succ, List.getElem_cons_zero, List.setIfInBounds_toArray, List.set_cons_zero, List.set_cons_succ]
        refine wpAnyH_take (i := 3) (v := .agg #[.int .i64 (a.kind), .int .i64 (a.n), .string ⟨a.s.toArray⟩]) rfl (by kernel_rfl) (by kernel_rfl) (by kernel_rfl) (fun _ _ _ h => h) (Or.inl ⟨by rfl, ?_⟩) hHeld ?_
        · intro w' hSw; obtain ⟨z0, z1, z2⟩ := (Hca.out.agree (.below hSw.below (Nat.le_refl _)) (Nat.zero_le _) hbxw).c3; go_simp
        try simp only [Act.put, List.getElem_toArray, List.getElem_cons_succ, List.getElem_cons_zero, List.setIfInBounds_toArray, List.set_cons_zero, List.set_cons_succ]
        refine wpAnyH_take (i := 4) (v := .slice (some ⟨by_, oy, none⟩) y.length cy) rfl (by kernel_rfl) (by kernel_rfl) (by kernel_rfl) (fun _ _ _ h => h) (Or.inl ⟨by rfl, ?_⟩) hHeld ?_
        · intro w' hSw; go_simp
        try simp only [Act.put, List.getElem_toArray, List.getElem_cons_succ, List.getElem_cons_zero, List.setIfInBounds_toArray, List.set_cons_zero, List.set_cons_succ]
        refine wpAnyH_take (i := 5) (v := .int .i64 ((k : Int))) rfl (by kernel_rfl) (by kernel_rfl) (by kernel_rfl) (fun _ _ _ h => h) (Or.inl ⟨by rfl, ?_⟩) hHeld ?_
        · intro w' hSw; go_simp
        try simp only [Act.put, List.getElem_toArray, List.getElem_cons_succ, List.getElem_cons_zero, List.setIfInBounds_toArray, List.set_cons_zero, List.set_cons_succ]
        refine wpAnyH_take (i := 6) (v := .pointer (some ⟨by_, oy + k * 3, none⟩)) rfl (by kernel_rfl) (by kernel_rfl) (by kernel_rfl) (fun _ _ _ h => h) (Or.inl ⟨by rfl, ?_⟩) hHeld ?_
        · intro w' hSw; go_simp
        try simp only [Act.put, List.getElem_toArray, List.getElem_cons_succ, List.getElem_cons_zero, List.setIfInBounds_toArray, List.set_cons_zero, List.set_cons_succ]
        refine wpAnyH_take (i := 7) (v := .agg #[.int .i64 (b.kind), .int .i64 (b.n), .string ⟨b.s.toArray⟩]) rfl (by kernel_rfl) (by kernel_rfl) (by kernel_rfl) (fun _ _ _ h => h) (Or.inl ⟨by rfl, ?_⟩) hHeld ?_
        · intro w' hSw; obtain ⟨z0, z1, z2⟩ := (Hcb.out.agree (.below hSw.below (Nat.le_refl _)) (Nat.zero_le _) hbyw).c3; go_simp
        try simp only [Act.put, List.getElem_toArray, List.getElem_cons_succ, List.getElem_cons_zero, List.setIfInBounds_toArray, List.set_cons_zero, List.set_cons_succ]
        refine wpAnyH_ready (rs := [8]) (by kernel_rfl) (by simp) ?_
        refine allCall (f := 64) (args := #[.agg #[.int .i64 a.kind, .int .i64 a.n, .string ⟨a.s.toArray⟩], .agg #[.int .i64 b.kind, .int .i64 b.n, .string ⟨b.s.toArray⟩]]) rfl (by kernel_rfl) (by kernel_rfl) ?_ AllReadyH.nil
        refine CompareG_any a b _ _ (fun w5 hB5 => ?_)
        refine ⟨_, rfl, hS0.trans hB5, ?_⟩
        have HB5 := Lib.hid (hS0.trans hB5)
        clear hB5 hHeld
        have hHeld := HB5.out
        try simp only [Act.put, List.getElem_toArray, List.getElem_cons_succ, List.getElem_cons_zero, List.setIfInBounds_toArray, List.set_cons_zero, List.set_cons_succ]
        refine wpAnyH_take (i := 9) (v := .int .i64 ((cmpV a b))) rfl (by kernel_rfl) (by kernel_rfl) (by kernel_rfl) (fun _ _ _ h => h) (Or.inl ⟨by rfl, ?_⟩) hHeld ?_
        · intro w' hSw; go_simp
        try simp only [Act.put, List.getElem_toArray, List.getElem_cons_succ, List.getElem_cons_zero, List.setIfInBounds_toArray, List.set_cons_zero, List.set_cons_succ]
        refine wpAnyH_done (by kernel_rfl) ?_ _
        clear hHeld
        by_cases h0 : cmpV a b = 0
        · have Hn := Hst.out
          rw [if_pos h0] at Hn
          have Hn := Lib.hid Hn
          have g0 : (cmpV a b != 0) = false := by simp [h0]
          generalize cmpV a b = cv at *
          clear h0
          go_wp2_with fail
          go_roundw
          case rel => exact ⟨k + 1, by omega, by omega, by go_num, Hn.out, HB.out.trans HB5.out⟩
          case measure => simp [intOf]; omega
        · have hr := HR.out w5 (HB.out.trans HB5.out)
          have Hn := Hst.out
          rw [if_neg h0] at Hn
          rw [Hn] at hr
          clear Hn
          have g0 : (cmpV a b != 0) = true := by simp [h0]
          generalize cmpV a b = cv at *
          go_wp2_with fail
          first | exact hr | exact fin hr rfl
      · exact absurd hky (by omega)
    · obtain rfl : k = x.length := by omega
      have hr := HR.out wo HB.out
      rw [Heq.out, cmpR_end (.inl rfl) (Nat.le_refl _) hky] at hr
      have klx : ¬ ((x.length : Nat) : Int) < (x.length : Int) := by omega
      go_wp2_with fail
      refine cmp_int _ _ _ _ ?_
      go_wp2_with fail
      first | exact hr | exact fin hr rfl
theorem rowsCompare_any (lo hi lo2 hi2 : Nat) (x y : List V) (vx vy : Value) (w : World) (hx : Row1 lo hi w vx x) (hy : Row1 lo2 hi2 w vy y) (hhi : hi ≤ w.heap.size) (hhi2 : hi2 ≤ w.heap.size) (R : Ending → World → Prop)
    (hR : ∀ w', Gw w w' → R (.returned (.int .i64 (cmpR x y))) w') : Calls Try.prog 24 #[vx, vy] w R := by
  cases h : decide (y.length < x.length)
  · exact rowsCompare_false lo hi lo2 hi2 x y vx vy w hx hy hhi hhi2 h R hR
  · exact rowsCompare_true lo hi lo2 hi2 x y vx vy w hx hy hhi hhi2 h R hR
end Go.Proofs.Ytpncblagjkbemaa
