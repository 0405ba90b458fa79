/- slices.CompactFunc of rows of a call's own. (Printed by rowe.py.) -/
import Derived.Test.YtpncblagjkbemaaRowD
namespace Go.Proofs.Ytpncblagjkbemaa
open Go.RowKit
set_option linter.unusedVariables false
set_option linter.unusedSimpArgs false

set_option maxRecDepth 100000 in
set_option maxHeartbeats 2000000 in
theorem eqRows_any (lo hi lo2 hi2 : Nat) (x y : List V) (vx vy : Value) (w : World) (hx : Row1 lo hi w vx x) (hy : Row1 lo2 hi2 w vy y) (hhi : hi ≤ w.heap.size) (hhi2 : hi2 ≤ w.heap.size) (R : Ending → World → Prop)
    (hR : ∀ w', Gw w w' → R (.returned (.bool (cmpR x y == 0))) w') : Calls Try.prog 114 #[vx, vy] w R := by
  have HR := Lib.hid hR
  have Hx := Lib.hid hx
  have Hy := Lib.hid hy
  obtain ⟨ax, cx, rfl, -, -, -, -⟩ := hx.form
  obtain ⟨ay, cy, rfl, -, -, -, -⟩ := hy.form
  clear hR hx hy
  go_enter Try.func114, Try.ntmps114
  go_wp2_with fail
  refine rowsCompare_any lo hi lo2 hi2 x y _ _ w Hx.out Hy.out hhi hhi2 _ (fun w1 hg => ?_)
  have hr := HR.out w1 hg
  generalize cmpR x y = c at *
  clear hg
  go_wp2_with fail
  first | exact hr | exact fin hr rfl | exact fin hr (by simp)
theorem Own.setH {lo g n c j : Nat} {w : World} {hs : List Value} (h : OwnH lo w (.slice (some ⟨g, 0, none⟩) n c) hs) (u : Value) : OwnH lo (w.setCell ⟨g, j, none⟩ u) (.slice (some ⟨g, 0, none⟩) n c) (if j < hs.length then hs.set j u else hs) := by
  obtain ⟨h1, h2⟩ := h
  rcases h2 with ⟨ee, hn⟩ | ⟨g', cap, cur, ee, hb, hg, hnc, hcm, hcs, htake⟩
  · cases ee
  · injection ee with e1 e2 e3
    injection e1 with e1
    injection e1 with e1
    subst e1 e2 e3
    have hB : Blk w g cur.toList 42 := by unfold Blk; simpa using hg
    have hB2 := hB.set j u
    rw [flat_vE] at htake
    by_cases hj : j < hs.length
    · rw [if_pos hj]
      refine ⟨by simp [flat_vE], .inr ⟨g, c, (cur.toList.set j u).toArray, by simp, hb, hB2, by simpa using hnc, hcm, by simpa using hcs, ?_⟩⟩
      rw [List.length_set, List.toList_toArray, List.take_set, htake, flat_vE]
    · rw [if_neg hj]
      refine ⟨h1, .inr ⟨g, c, (cur.toList.set j u).toArray, rfl, hb, hB2, hnc, hcm, by simpa using hcs, ?_⟩⟩
      rw [List.toList_toArray, List.take_set_of_le (by omega), htake, flat_vE]
theorem Own.setAt {lo g n c j : Nat} {w : World} {hs : List Value} (h : OwnH lo w (.slice (some ⟨g, 0, none⟩) n c) hs) (hj : j < hs.length) (u : Value) : OwnH lo (w.setCell ⟨g, j, none⟩ u) (.slice (some ⟨g, 0, none⟩) n c) (hs.set j u) := by
  have := Own.setH h u (j := j)
  rwa [if_pos hj] at this
theorem Own.setOut {lo g n c : Nat} {hs : List Value} (us : List Value) : ∀ (w : World) (j : Nat), OwnH lo w (.slice (some ⟨g, 0, none⟩) n c) hs → hs.length ≤ j → OwnH lo (w.setCells g j us) (.slice (some ⟨g, 0, none⟩) n c) hs := by
  induction us with
  | nil => intro w j h _; exact h
  | cons u r ih =>
    intro w j h hj
    have := Own.setH h u (j := j)
    rw [if_neg (by omega)] at this
    exact ih _ (j + 1) this (by omega)
theorem Own.cut {lo g n c k : Nat} {w : World} {hs : List Value} (h : OwnH lo w (.slice (some ⟨g, 0, none⟩) n c) hs) (hk : k ≤ hs.length) : OwnH lo w (.slice (some ⟨g, 0, none⟩) k c) (hs.take k) := by
  obtain ⟨h1, h2⟩ := h
  have hl : (hs.take k).length = k := by rw [List.length_take]; omega
  rcases h2 with ⟨ee, hn⟩ | ⟨g', cap, cur, ee, hb, hg, hnc, hcm, hcs, htake⟩
  · cases ee
  · injection ee with e1 e2 e3
    injection e1 with e1
    injection e1 with e1
    subst e1 e2 e3
    rw [flat_vE, Nat.mul_one] at htake
    refine ⟨by rw [flat_vE, Nat.mul_one], .inr ⟨g, c, cur, by rw [hl], hb, hg, by omega, hcm, hcs, ?_⟩⟩
    rw [hl, flat_vE, Nat.mul_one, ← htake, List.take_take, Nat.min_eq_left hk]
theorem only_setCells (g : Nat) (us : List Value) : ∀ (w : World) (j : Nat), Only (fun z => z = g) w (w.setCells g j us) := by
  induction us with
  | nil => intro w j; exact Only.refl _ _
  | cons u r ih => intro w j; exact (Only.setCell (A := fun z => z = g) w (p := ⟨g, j, none⟩) rfl u).trans (ih _ _)
theorem compactL_snoc {α : Type} {c : α → α → Int} (h : Cmp c) : ∀ (l : List α) (x y : α), compactL c (l ++ [x] ++ [y]) = if c y x = 0 then compactL c (l ++ [x]) else compactL c (l ++ [x]) ++ [y]
  | [], x, y => by
    simp only [List.nil_append, List.cons_append, compactL]
    split
    · rename_i h0; rw [(h.zero _ _).1 h0]
    · rfl
  | a :: l, x, y => by
    have ih := compactL_snoc h l x y
    cases l with
    | nil =>
      simp only [List.cons_append, List.nil_append, compactL]
      by_cases h1 : c x a = 0 <;> by_cases h2 : c y x = 0
      · rw [if_pos h1, if_pos h2, if_pos h1, if_pos h2, (h.zero _ _).1 h2]
      · rw [if_pos h1, if_neg h2, if_pos h1, if_neg h2]; rfl
      · rw [if_neg h1, if_pos h2, if_neg h1, if_pos h2, (h.zero _ _).1 h2]
      · rw [if_neg h1, if_neg h2, if_neg h1, if_neg h2]; rfl
    | cons b l =>
      simp only [List.cons_append] at ih ⊢
      rw [compactL, ih, compactL]
      by_cases h1 : c b a = 0 <;> by_cases h2 : c y x = 0
      · rw [if_pos h1, if_pos h2, if_pos h1, if_pos h2]
      · rw [if_pos h1, if_neg h2, if_pos h1, if_neg h2]
      · rw [if_neg h1, if_pos h2, if_neg h1, if_pos h2]
      · rw [if_neg h1, if_neg h2, if_neg h1, if_neg h2]; rfl
theorem compact_take {xs : List (List V)} {k : Nat} (h1 : 1 ≤ k) (h2 : k < xs.length) : compactL cmpR (xs.take (k + 1)) = if cmpR xs[k] xs[k - 1] = 0 then compactL cmpR (xs.take k) else compactL cmpR (xs.take k) ++ [xs[k]] := by
  have e1 : xs.take k = xs.take (k - 1) ++ [xs[k - 1]] := by
    rw [← List.take_succ_eq_append_getElem (by omega), Nat.sub_add_cancel h1]
  rw [List.take_succ_eq_append_getElem h2, e1, compactL_snoc cmpR_cmp]
theorem wrap_ok {x : Int} (h1 : 0 ≤ x) (h2 : x ≤ 9223372036854775807) : IntKind.i64.wrap x = x := by
  simp [IntKind.wrap, IntKind.bits, IntKind.signed]; omega
set_option maxRecDepth 100000 in
theorem run_from (g n c k : Nat) (hk : k < n) (hn : n ≤ c) (hc : c ≤ 9223372036854775807) (w' : World) : (Instr.slice 32 (.slice (some ⟨g, 0, none⟩) n c) (some (.int .i64 (k : Int))) none none).run Try.prog w' = .ok (.slice (some ⟨g, k, none⟩) (n - k) (c - k)) w' := by
  rw [run_slice_l w' 32 _ n c Try.underlying32 .i64 (k : Int) (by omega) (by omega)]
  have hsz : ∀ w, (sizeOf (Try.prog.elem 32)).run Try.prog w = .ok 1 w := fun w => by kernel_rfl
  simp only [hsz, Result.andThen, Int.toNat_natCast, sliced]
  rw [if_neg (by omega)]
  simp [Addr.add] <;> omega
theorem take_range' {α : Type} (l : List α) (d : α) (k : Nat) (h : k ≤ l.length) : l.take k = (List.range k).map (fun i => l.getD i d) := by
  apply List.ext_getElem
  · simp; omega
  · intro i h1 h2
    have : i < l.length := by rw [List.length_take] at h1; omega
    simp [List.getD, this]
set_option maxRecDepth 100000 in
theorem run_to (g n c k : Nat) (hk : k ≤ n) (hn : n ≤ c) (hc : c ≤ 9223372036854775807) (w' : World) : (Instr.slice 32 (.slice (some ⟨g, 0, none⟩) n c) none (some (.int .i64 (k : Int))) none).run Try.prog w' = .ok (.slice (some ⟨g, 0, none⟩) k c) w' := by
  rw [run_slice_h w' 32 _ n c Try.underlying32 .i64 (k : Int) (by omega) (by omega)]
  have hsz : ∀ w, (sizeOf (Try.prog.elem 32)).run Try.prog w = .ok 1 w := fun w => by kernel_rfl
  simp only [hsz, Result.andThen, Int.toNat_natCast, sliced]
  split <;> simp [Addr.add]
set_option maxRecDepth 100000 in
set_option maxHeartbeats 8000000 in
theorem compact_any (lo : Nat) (v : Value) (hs : List Value) (xs : List (List V)) (w : World) (h : OwnR lo w v hs xs) (hlen : xs.length ≤ 1000000000000) (R : Ending → World → Prop)
    (hR : ∀ w' v' hs', Only (fun z => v.ownBlock = some z) w w' → OwnR lo w' v' hs' (compactL cmpR xs) → R (.returned v') w') :
    Calls Try.prog 113 #[v, .func (.func 114) #[] #[]] w R := by
  have HR := Lib.hid hR
  have hl := h.len
  clear hR
  by_cases hsm : hs.length < 2
  · have hc : compactL cmpR xs = xs := by
      match xs, hl with
      | [], _ => rfl
      | [x], _ => rfl
      | _ :: _ :: _, e => rw [e] at hsm; simp only [List.length_cons] at hsm; omega
    have hr := HR.out w v hs (Only.refl _ _) (by rw [hc]; exact h)
    obtain ⟨p, c, rfl⟩ := Own.slice h.own
    have hi : (hs.length : Int) < 2 := by omega
    go_enter Try.func113, Try.ntmps113
    go_wp2_with fail
    first | exact hr | exact fin hr rfl
  · obtain ⟨g, c, hv, hb, hgl, hnc, hcm, -, -⟩ := Own.form h.own (by intro e; rw [e] at hsm; simp at hsm)
    subst hv
    obtain ⟨n, hn⟩ : ∃ n, n = hs.length := ⟨_, rfl⟩
    rw [← hn] at h hl hsm hnc ⊢
    have Hn := Lib.hid hn
    have Hl := Lib.hid hl
    have H := Lib.hid h
    have n2 : ¬ (n : Int) < 2 := by omega
    have hnx : n ≤ 1000000000000 := by omega
    have hap : ∀ i (hi : i < hs.length) k, hs[i].ownBlock = some k → k ≠ g := fun i hi k hk e => h.apart i hi k hk (by rw [e]; rfl)
    have Hap := Lib.hid hap
    -- a row, in whatever world in which block g alone has turned
    have hrow : ∀ w' : World, Only (fun z => z = g) w w' → ∀ i (hi : i < hs.length) (hi2 : i < xs.length), OwnV lo w' hs[i] xs[i] := fun w' ho i hi hi2 =>
      Own.same (h.row i hi hi2) (fun k hk => ho.block k (Own.lt (h.row i hi hi2) k hk).2 (hap i hi k hk))
    have Hrow := Lib.hid hrow
    clear hn hl h hap hrow
    go_enter Try.func113, Try.ntmps113
    go_wp2_with fail
    go_loopw [5] (fun t5 wr => ∃ k : Nat, 1 ≤ k ∧ k ≤ n ∧ t5 = .int .i64 k ∧ Below w.heap.size w wr ∧ compactL cmpR (xs.take k) = xs.take k) (fun t5 _ => n - (intOf t5).toNat)
    case atStart => exact ⟨1, Nat.le_refl _, by omega, rfl, Below.refl _ _, by
      have := Hl.out
      cases xs with
      | nil => rfl
      | cons a r => rfl⟩
    case round =>
      obtain ⟨k, hk1, hkn, rfl, hB, hc⟩ := hrel
      obtain ⟨wo, ewo⟩ : ∃ x, x = wr := ⟨_, rfl⟩
      subst ewo
      have HB := Lib.hid hB
      have Hc := Lib.hid hc
      have hz := hB.size
      clear hB hc
      have kk0 : (0 : Int) ≤ (k : Int) := by omega
      by_cases hlt : k < n
      · obtain ⟨m, hm⟩ : ∃ m, k = m + 1 := ⟨k - 1, by omega⟩
        have hks : k < hs.length := by rw [← Hn.out]; exact hlt
        have hms : m < hs.length := by rw [← Hn.out]; omega
        have hkx : k < xs.length := by rw [← Hl.out]; exact hlt
        have hmx : m < xs.length := by rw [← Hl.out]; omega
        have wsub : IntKind.i64.wrap ((k : Int) - 1) = (m : Int) := by rw [show (k : Int) - 1 = (m : Int) by omega]; exact wrap_ok (by omega) (by omega)
        have hO : OwnH lo wo (.slice (some ⟨g, 0, none⟩) n c) hs := Own.kept H.out.own HB.out
        obtain ⟨g', c', hv', -, -, -, -, hcells, hfr⟩ := Own.form hO (by intro e; rw [e] at hks; simp at hks)
        injection hv' with e1 e2 e3
        injection e1 with e1
        injection e1 with e1
        subst e1 e3
        clear e2
        rw [flat_vE] at hcells
        have gx := hcells k _ (List.getElem?_eq_getElem hks)
        have gy := hcells m _ (List.getElem?_eq_getElem hms)
        rw [Nat.zero_add] at gx gy
        have Hrx := Lib.hid (Hrow.out _ (Below.only HB.out) k hks hkx)
        have Hry := Lib.hid (Hrow.out _ (Below.only HB.out) m hms hmx)
        have Hst := Lib.hid (compact_take (xs := xs) hk1 hkx)
        have Htk := Lib.hid (List.take_succ_eq_append_getElem hkx)
        rw [show xs[k - 1]'(by omega) = xs[m] by congr 1; omega] at Hst
        obtain ⟨xa, xc, ex⟩ := Own.slice Hrx.out
        obtain ⟨ya, yc, ey⟩ := Own.slice Hry.out
        obtain ⟨X, hX⟩ : ∃ X, X = xs[k] := ⟨_, rfl⟩
        obtain ⟨Y, hY⟩ : ∃ Y, Y = xs[m] := ⟨_, rfl⟩
        rw [← hX] at ex Hrx Hst Htk
        rw [← hY] at ey Hry Hst
        obtain ⟨xn, hxn⟩ : ∃ xn, xn = X.length := ⟨_, rfl⟩
        obtain ⟨yn, hyn⟩ : ∃ yn, yn = Y.length := ⟨_, rfl⟩
        rw [← hxn] at ex
        rw [← hyn] at ey
        rw [ex] at gx Hrx
        rw [ey] at gy Hry
        have hgw : g < wo.heap.size := by omega
        have kn : (k : Int) < (n : Int) := by omega
        have mn : (m : Int) < (n : Int) := by omega
        have m0 : (0 : Int) ≤ (m : Int) := by omega
        have Hm := Lib.hid hm
        clear hO hcells hX hY hxn hyn hm ex ey
        go_upto_region 6 with fail
        cases hcmp : (cmpR X Y == 0)
        · have hS0 : Below wo.heap.size wo wo.drew := (Below.refl _ _).drew
          refine wp_region_held_drew (S := fun w' => Below wo.heap.size wo w') (by kernel_rfl) hS0 (fun hHeld => ?_)
          refine wpAnyH_take (i := 0) (v := .func (.func 114) #[] #[]) rfl (by kernel_rfl) (by kernel_rfl) (by kernel_rfl) (fun _ _ _ h => h) (Or.inl ⟨by rfl, ?_⟩) hHeld ?_
          · intro w' hSw; go_simp <;> omega
          try simp only [Act.put, List.getElem_toArray, List.getElem_cons_succ, List.getElem_cons_zero, List.setIfInBounds_toArray, List.set_cons_zero, List.set_cons_succ]
          refine wpAnyH_take (i := 1) (v := .slice (some ⟨g, 0, none⟩) n c) rfl (by kernel_rfl) (by kernel_rfl) (by kernel_rfl) (fun _ _ _ h => h) (Or.inl ⟨by rfl, ?_⟩) hHeld ?_
          · intro w' hSw; go_simp <;> omega
          try simp only [Act.put, List.getElem_toArray, List.getElem_cons_succ, List.getElem_cons_zero, List.setIfInBounds_toArray, List.set_cons_zero, List.set_cons_succ]
          refine wpAnyH_take (i := 2) (v := .int .i64 ((k : Int))) rfl (by kernel_rfl) (by kernel_rfl) (by kernel_rfl) (fun _ _ _ h => h) (Or.inl ⟨by rfl, ?_⟩) hHeld ?_
          · intro w' hSw; go_simp <;> omega
          try simp only [Act.put, List.getElem_toArray, List.getElem_cons_succ, List.getElem_cons_zero, List.setIfInBounds_toArray, List.set_cons_zero, List.set_cons_succ]
          refine wpAnyH_take (i := 3) (v := .pointer (some ⟨g, k, none⟩)) rfl (by kernel_rfl) (by kernel_rfl) (by kernel_rfl) (fun _ _ _ h => h) (Or.inl ⟨by rfl, ?_⟩) hHeld ?_
          · intro w' hSw; go_simp <;> omega
          try simp only [Act.put, List.getElem_toArray, List.getElem_cons_succ, List.getElem_cons_zero, List.setIfInBounds_toArray, List.set_cons_zero, List.set_cons_succ]
          refine wpAnyH_take (i := 4) (v := .slice xa xn xc) rfl (by kernel_rfl) (by kernel_rfl) (by kernel_rfl) (fun _ _ _ h => h) (Or.inl ⟨by rfl, ?_⟩) hHeld ?_
          · intro w' hSw; have kx := (World.cell?_of_block (hSw.block g hgw)).trans gx; go_simp
          try simp only [Act.put, List.getElem_toArray, List.getElem_cons_succ, List.getElem_cons_zero, List.setIfInBounds_toArray, List.set_cons_zero, List.set_cons_succ]
          refine wpAnyH_take (i := 5) (v := .slice (some ⟨g, 0, none⟩) n c) rfl (by kernel_rfl) (by kernel_rfl) (by kernel_rfl) (fun _ _ _ h => h) (Or.inl ⟨by rfl, ?_⟩) hHeld ?_
          · intro w' hSw; go_simp <;> omega
          try simp only [Act.put, List.getElem_toArray, List.getElem_cons_succ, List.getElem_cons_zero, List.setIfInBounds_toArray, List.set_cons_zero, List.set_cons_succ]
          refine wpAnyH_take (i := 6) (v := .int .i64 ((k : Int))) rfl (by kernel_rfl) (by kernel_rfl) (by kernel_rfl) (fun _ _ _ h => h) (Or.inl ⟨by rfl, ?_⟩) hHeld ?_
          · intro w' hSw; go_simp <;> omega
          try simp only [Act.put, List.getElem_toArray, List.getElem_cons_succ, List.getElem_cons_zero, List.setIfInBounds_toArray, List.set_cons_zero, List.set_cons_succ]
          refine wpAnyH_take (i := 7) (v := .int .i64 ((m : Int))) rfl (by kernel_rfl) (by kernel_rfl) (by kernel_rfl) (fun _ _ _ h => h) (Or.inl ⟨by rfl, ?_⟩) hHeld ?_
          · intro w' hSw; go_simp <;> omega
          try simp only [Act.put, List.getElem_toArray, List.getElem_cons_succ, List.getElem_cons_zero, List.setIfInBounds_toArray, List.set_cons_zero, List.set_cons_succ]
          refine wpAnyH_take (i := 8) (v := .pointer (some ⟨g, m, none⟩)) rfl (by kernel_rfl) (by kernel_rfl) (by kernel_rfl) (fun _ _ _ h => h) (Or.inl ⟨by rfl, ?_⟩) hHeld ?_
          · intro w' hSw; go_simp <;> omega
          try simp only [Act.put, List.getElem_toArray, List.getElem_cons_succ, List.getElem_cons_zero, List.setIfInBounds_toArray, List.set_cons_zero, List.set_cons_succ]
          refine wpAnyH_take (i := 9) (v := .slice ya yn yc) rfl (by kernel_rfl) (by kernel_rfl) (by kernel_rfl) (fun _ _ _ h => h) (Or.inl ⟨by rfl, ?_⟩) hHeld ?_
          · intro w' hSw; have kx := (World.cell?_of_block (hSw.block g hgw)).trans gy; go_simp
          try simp only [Act.put, List.getElem_toArray, List.getElem_cons_succ, List.getElem_cons_zero, List.setIfInBounds_toArray, List.set_cons_zero, List.set_cons_succ]
          refine wpAnyH_ready (rs := [10]) (by kernel_rfl) (by simp) ?_
          refine allCall (f := 114) (args := #[.slice xa xn xc, .slice ya yn yc]) rfl (by kernel_rfl) (by kernel_rfl) ?_ AllReadyH.nil
          refine eqRows_any lo wo.heap.size lo wo.heap.size X Y _ _ _ (Sl.below (OwnV.sl Hrx.out) Row1.loc hS0 (Nat.le_refl _)) (Sl.below (OwnV.sl Hry.out) Row1.loc hS0 (Nat.le_refl _)) (Nat.le_refl _) (Nat.le_refl _) _ (fun w5 hg5 => ?_)
          refine ⟨_, rfl, hS0.trans (hg5.below.mono (Nat.le_refl _)), ?_⟩
          have HB5 := Lib.hid (hS0.trans (hg5.below.mono (Nat.le_refl _)))
          clear hg5 hHeld
          have hHeld := HB5.out
          rw [hcmp]
          try simp only [Act.put, List.getElem_toArray, List.getElem_cons_succ, List.getElem_cons_zero, List.setIfInBounds_toArray, List.set_cons_zero, List.set_cons_succ]
          refine wpAnyH_done (by kernel_rfl) ?_ _
          clear hHeld
          have Hne : Hid (cmpR X Y ≠ 0) := Lib.hid (by simpa using hcmp)
          clear hcmp
          have Hc2 : Hid (compactL cmpR (xs.take (k + 1)) = xs.take (k + 1)) := Lib.hid (by rw [Hst.out, if_neg Hne.out, Hc.out, Htk.out])
          go_wp2_with fail
          go_roundw
          case rel => exact ⟨k + 1, by omega, by omega, by go_num, HB.out.trans (HB5.out.mono hz), Hc2.out⟩
          case measure => simp [intOf]; omega
        · have hS0 : Below wo.heap.size wo wo.drew := (Below.refl _ _).drew
          refine wp_region_held_drew (S := fun w' => Below wo.heap.size wo w') (by kernel_rfl) hS0 (fun hHeld => ?_)
          refine wpAnyH_take (i := 0) (v := .func (.func 114) #[] #[]) rfl (by kernel_rfl) (by kernel_rfl) (by kernel_rfl) (fun _ _ _ h => h) (Or.inl ⟨by rfl, ?_⟩) hHeld ?_
          · intro w' hSw; go_simp <;> omega
          try simp only [Act.put, List.getElem_toArray, List.getElem_cons_succ, List.getElem_cons_zero, List.setIfInBounds_toArray, List.set_cons_zero, List.set_cons_succ]
          refine wpAnyH_take (i := 1) (v := .slice (some ⟨g, 0, none⟩) n c) rfl (by kernel_rfl) (by kernel_rfl) (by kernel_rfl) (fun _ _ _ h => h) (Or.inl ⟨by rfl, ?_⟩) hHeld ?_
          · intro w' hSw; go_simp <;> omega
          try simp only [Act.put, List.getElem_toArray, List.getElem_cons_succ, List.getElem_cons_zero, List.setIfInBounds_toArray, List.set_cons_zero, List.set_cons_succ]
          refine wpAnyH_take (i := 2) (v := .int .i64 ((k : Int))) rfl (by kernel_rfl) (by kernel_rfl) (by kernel_rfl) (fun _ _ _ h => h) (Or.inl ⟨by rfl, ?_⟩) hHeld ?_
          · intro w' hSw; go_simp <;> omega
          try simp only [Act.put, List.getElem_toArray, List.getElem_cons_succ, List.getElem_cons_zero, List.setIfInBounds_toArray, List.set_cons_zero, List.set_cons_succ]
          refine wpAnyH_take (i := 3) (v := .pointer (some ⟨g, k, none⟩)) rfl (by kernel_rfl) (by kernel_rfl) (by kernel_rfl) (fun _ _ _ h => h) (Or.inl ⟨by rfl, ?_⟩) hHeld ?_
          · intro w' hSw; go_simp <;> omega
          try simp only [Act.put, List.getElem_toArray, List.getElem_cons_succ, List.getElem_cons_zero, List.setIfInBounds_toArray, List.set_cons_zero, List.set_cons_succ]
          refine wpAnyH_take (i := 4) (v := .slice xa xn xc) rfl (by kernel_rfl) (by kernel_rfl) (by kernel_rfl) (fun _ _ _ h => h) (Or.inl ⟨by rfl, ?_⟩) hHeld ?_
          · intro w' hSw; have kx := (World.cell?_of_block (hSw.block g hgw)).trans gx; go_simp
          try simp only [Act.put, List.getElem_toArray, List.getElem_cons_succ, List.getElem_cons_zero, List.setIfInBounds_toArray, List.set_cons_zero, List.set_cons_succ]
          refine wpAnyH_take (i := 5) (v := .slice (some ⟨g, 0, none⟩) n c) rfl (by kernel_rfl) (by kernel_rfl) (by kernel_rfl) (fun _ _ _ h => h) (Or.inl ⟨by rfl, ?_⟩) hHeld ?_
          · intro w' hSw; go_simp <;> omega
          try simp only [Act.put, List.getElem_toArray, List.getElem_cons_succ, List.getElem_cons_zero, List.setIfInBounds_toArray, List.set_cons_zero, List.set_cons_succ]
          refine wpAnyH_take (i := 6) (v := .int .i64 ((k : Int))) rfl (by kernel_rfl) (by kernel_rfl) (by kernel_rfl) (fun _ _ _ h => h) (Or.inl ⟨by rfl, ?_⟩) hHeld ?_
          · intro w' hSw; go_simp <;> omega
          try simp only [Act.put, List.getElem_toArray, List.getElem_cons_succ, List.getElem_cons_zero, List.setIfInBounds_toArray, List.set_cons_zero, List.set_cons_succ]
          refine wpAnyH_take (i := 7) (v := .int .i64 ((m : Int))) rfl (by kernel_rfl) (by kernel_rfl) (by kernel_rfl) (fun _ _ _ h => h) (Or.inl ⟨by rfl, ?_⟩) hHeld ?_
          · intro w' hSw; go_simp <;> omega
          try simp only [Act.put, List.getElem_toArray, List.getElem_cons_succ, List.getElem_cons_zero, List.setIfInBounds_toArray, List.set_cons_zero, List.set_cons_succ]
          refine wpAnyH_take (i := 8) (v := .pointer (some ⟨g, m, none⟩)) rfl (by kernel_rfl) (by kernel_rfl) (by kernel_rfl) (fun _ _ _ h => h) (Or.inl ⟨by rfl, ?_⟩) hHeld ?_
          · intro w' hSw; go_simp <;> omega
          try simp only [Act.put, List.getElem_toArray, List.getElem_cons_succ, List.getElem_cons_zero, List.setIfInBounds_toArray, List.set_cons_zero, List.set_cons_succ]
          refine wpAnyH_take (i := 9) (v := .slice ya yn yc) rfl (by kernel_rfl) (by kernel_rfl) (by kernel_rfl) (fun _ _ _ h => h) (Or.inl ⟨by rfl, ?_⟩) hHeld ?_
          · intro w' hSw; have kx := (World.cell?_of_block (hSw.block g hgw)).trans gy; go_simp
          try simp only [Act.put, List.getElem_toArray, List.getElem_cons_succ, List.getElem_cons_zero, List.setIfInBounds_toArray, List.set_cons_zero, List.set_cons_succ]
          refine wpAnyH_ready (rs := [10]) (by kernel_rfl) (by simp) ?_
          refine allCall (f := 114) (args := #[.slice xa xn xc, .slice ya yn yc]) rfl (by kernel_rfl) (by kernel_rfl) ?_ AllReadyH.nil
          refine eqRows_any lo wo.heap.size lo wo.heap.size X Y _ _ _ (Sl.below (OwnV.sl Hrx.out) Row1.loc hS0 (Nat.le_refl _)) (Sl.below (OwnV.sl Hry.out) Row1.loc hS0 (Nat.le_refl _)) (Nat.le_refl _) (Nat.le_refl _) _ (fun w5 hg5 => ?_)
          refine ⟨_, rfl, hS0.trans (hg5.below.mono (Nat.le_refl _)), ?_⟩
          have HB5 := Lib.hid (hS0.trans (hg5.below.mono (Nat.le_refl _)))
          clear hg5 hHeld
          have hHeld := HB5.out
          rw [hcmp]
          try simp only [Act.put, List.getElem_toArray, List.getElem_cons_succ, List.getElem_cons_zero, List.setIfInBounds_toArray, List.set_cons_zero, List.set_cons_succ]
          refine wpAnyH_done (by kernel_rfl) ?_ _
          clear hHeld
          have Heq : Hid (cmpR X Y = 0) := Lib.hid (by simpa using hcmp)
          clear hcmp
          have Hc2 : Hid (compactL cmpR (xs.take (k + 1)) = xs.take k) := Lib.hid (by rw [Hst.out, if_pos Heq.out, Hc.out])
          have HB6 := Lib.hid (HB.out.trans (HB5.out.mono hz))
          have hrf := run_from g n c k hlt hnc hcm
          have hrt := fun k' (hk' : k' ≤ n) => run_to g n c k' hk' hnc hcm
          have Hrt := Lib.hid hrt
          obtain ⟨k0, hk0⟩ : ∃ k0, k0 = k := ⟨_, rfl⟩
          rw [← hk0] at hrf
          have Hk0 := Lib.hid hk0
          clear hrt hk0 gx gy Hrx Hry
          obtain ⟨n2, hn2⟩ : ∃ n2, n2 = n - k0 := ⟨_, rfl⟩
          obtain ⟨c2, hc2⟩ : ∃ c2, c2 = c - k0 := ⟨_, rfl⟩
          rw [← hn2, ← hc2] at hrf
          have Hn2 := Lib.hid hn2
          clear hn2 hc2
          rw [← Hk0.out]
          go_wp2_with fail
          go_loopw [5, 7] (fun t5 t7 wr => ∃ (k' k2 : Nat) (hs' : List Value) (ix : List Nat), 1 ≤ k2 ∧ k0 + k2 ≤ n ∧ k' + 1 ≤ k0 + k2 ∧ t5 = .int .i64 k' ∧ t7 = .int .i64 k2 ∧ OwnH lo wr (.slice (some ⟨g, 0, none⟩) n c) hs' ∧ (∀ j, k0 + k2 ≤ j + 1 → hs'[j]? = hs[j]?) ∧ hs'.length = n ∧ ix.length = k' ∧ hs'.take k' = ix.map (fun i => hs.getD i (.slice none 0 0)) ∧ compactL cmpR (xs.take (k0 + k2)) = ix.map (fun i => xs.getD i []) ∧ (∀ i ∈ ix, i < n) ∧ Only (fun z => z = g) w wr) (fun _ t7 _ => n - (intOf t7).toNat)
          case atStart => exact ⟨k0, 1, hs, List.range k0, Nat.le_refl _, by have := Hk0.out; omega, Nat.le_refl _, rfl, rfl, Own.kept H.out.own HB6.out, fun j _ => rfl, Hn.out.symm, by simp, take_range' _ _ _ (by have := Hk0.out; have := Hn.out; omega), by rw [Hk0.out, Hc2.out]; exact take_range' _ _ _ (by have := Hl.out; omega), fun i hi => by have := List.mem_range.1 hi; have := Hk0.out; omega, Below.only HB6.out⟩
          case round =>
            obtain ⟨k', k2, hs', ix, h1, h2, h3, rfl, rfl, ho', hsame, hlen', hixl, htk, hcx, hixn, hOn⟩ := hrel
            obtain ⟨wi, ewi⟩ : ∃ x, x = wr := ⟨_, rfl⟩
            subst ewi
            have Ho' := Lib.hid ho'
            have Hsame := Lib.hid hsame
            have Hlen' := Lib.hid hlen'
            have Hixl := Lib.hid hixl
            have Htk := Lib.hid htk
            have Hcx := Lib.hid hcx
            have Hixn := Lib.hid hixn
            have HOn := Lib.hid hOn
            have hzi := hOn.size
            clear ho' hsame hlen' hixl htk hcx hixn hOn hrf
            have kk2 : (0 : Int) ≤ (k2 : Int) := by omega
            by_cases hlt2 : k2 < n2
            · have hn2 := Hn2.out
              have hkn2 : k0 + k2 < n := by omega
              obtain ⟨m2, hm2⟩ : ∃ m2, k2 = m2 + 1 := ⟨k2 - 1, by omega⟩
              have hks : k0 + k2 < hs.length := by rw [← Hn.out]; exact hkn2
              have hms : k0 + m2 < hs.length := by rw [← Hn.out]; omega
              have hkx : k0 + k2 < xs.length := by rw [← Hl.out]; exact hkn2
              have hmx : k0 + m2 < xs.length := by rw [← Hl.out]; omega
              have wsub2 : IntKind.i64.wrap ((k2 : Int) - 1) = (m2 : Int) := by rw [show (k2 : Int) - 1 = (m2 : Int) by omega]; exact wrap_ok (by omega) (by omega)
              obtain ⟨g', c', hv', -, hgw, -, -, hcells, hfr⟩ := Own.form Ho'.out (by intro e; have := Hlen'.out; rw [e] at this; simp at this; omega)
              injection hv' with e1 e2 e3
              injection e1 with e1
              injection e1 with e1
              subst e1 e3
              clear e2
              rw [flat_vE] at hcells
              have gx := hcells (k0 + k2) _ ((Hsame.out (k0 + k2) (by omega)).trans (List.getElem?_eq_getElem hks))
              have gy := hcells (k0 + m2) _ ((Hsame.out (k0 + m2) (by omega)).trans (List.getElem?_eq_getElem hms))
              obtain ⟨u', gk⟩ : ∃ u, wi.cell? ⟨g, 0 + k', none⟩ = some u := ⟨_, hcells k' _ (List.getElem?_eq_getElem (by rw [Hlen'.out]; omega))⟩
              have fk := hfr k'
              rw [Nat.zero_add] at gx gy gk
              have Hrx := Lib.hid (Hrow.out _ HOn.out _ hks hkx)
              have Hry := Lib.hid (Hrow.out _ HOn.out _ hms hmx)
              have Hst := Lib.hid (compact_take (xs := xs) (k := k0 + k2) (by omega) hkx)
              rw [show xs[k0 + k2 - 1]'(by omega) = xs[k0 + m2] by congr 1; omega] at Hst
              obtain ⟨xa, xc, ex⟩ := Own.slice Hrx.out
              obtain ⟨ya, yc, ey⟩ := Own.slice Hry.out
              have Hxd : Hid (xs.getD (k0 + k2) [] = xs[k0 + k2]) := Lib.hid (getDS xs _ _ hkx)
              have Hhd : Hid (hs.getD (k0 + k2) (.slice none 0 0) = hs[k0 + k2]) := Lib.hid (getDS hs _ _ hks)
              obtain ⟨X, hX⟩ : ∃ X, X = xs[k0 + k2] := ⟨_, rfl⟩
              obtain ⟨Y, hY⟩ : ∃ Y, Y = xs[k0 + m2] := ⟨_, rfl⟩
              rw [← hX] at ex Hrx Hst Hxd
              rw [← hY] at ey Hry Hst
              obtain ⟨xn, hxn⟩ : ∃ xn, xn = X.length := ⟨_, rfl⟩
              obtain ⟨yn, hyn⟩ : ∃ yn, yn = Y.length := ⟨_, rfl⟩
              rw [← hxn] at ex
              rw [← hyn] at ey
              rw [ex] at gx Hrx Hhd
              rw [ey] at gy Hry
              have k2n : (k2 : Int) < (n2 : Int) := by omega
              have m2n : (m2 : Int) < (n2 : Int) := by omega
              have m20 : (0 : Int) ≤ (m2 : Int) := by omega
              have k'n : (k' : Int) < (n : Int) := by omega
              have k'0 : (0 : Int) ≤ (k' : Int) := by omega
              have Hm2 := Lib.hid hm2
              clear hcells hfr hX hY hxn hyn hm2 ex ey hn2
              go_upto_region 11 with fail
              cases hcmp : (cmpR X Y == 0)
              · have hS0 : Below wi.heap.size wi wi.drew := (Below.refl _ _).drew
                refine wp_region_held_drew (S := fun w' => Below wi.heap.size wi w') (by kernel_rfl) hS0 (fun hHeld => ?_)
                refine wpAnyH_take (i := 0) (v := .func (.func 114) #[] #[]) rfl (by kernel_rfl) (by kernel_rfl) (by kernel_rfl) (fun _ _ _ h => h) (Or.inl ⟨by rfl, ?_⟩) hHeld ?_
                · intro w' hSw; go_simp <;> omega
                try simp only [Act.put, List.getElem_toArray, List.getElem_cons_succ, List.getElem_cons_zero, List.setIfInBounds_toArray, List.set_cons_zero, List.set_cons_succ]
                refine wpAnyH_take (i := 1) (v := .slice (some ⟨g, k0, none⟩) n2 c2) rfl (by kernel_rfl) (by kernel_rfl) (by kernel_rfl) (fun _ _ _ h => h) (Or.inl ⟨by rfl, ?_⟩) hHeld ?_
                · intro w' hSw; go_simp <;> omega
                try simp only [Act.put, List.getElem_toArray, List.getElem_cons_succ, List.getElem_cons_zero, List.setIfInBounds_toArray, List.set_cons_zero, List.set_cons_succ]
                refine wpAnyH_take (i := 2) (v := .int .i64 ((k2 : Int))) rfl (by kernel_rfl) (by kernel_rfl) (by kernel_rfl) (fun _ _ _ h => h) (Or.inl ⟨by rfl, ?_⟩) hHeld ?_
                · intro w' hSw; go_simp <;> omega
                try simp only [Act.put, List.getElem_toArray, List.getElem_cons_succ, List.getElem_cons_zero, List.setIfInBounds_toArray, List.set_cons_zero, List.set_cons_succ]
                refine wpAnyH_take (i := 3) (v := .pointer (some ⟨g, k0 + k2, none⟩)) rfl (by kernel_rfl) (by kernel_rfl) (by kernel_rfl) (fun _ _ _ h => h) (Or.inl ⟨by rfl, ?_⟩) hHeld ?_
                · intro w' hSw; go_simp <;> omega
                try simp only [Act.put, List.getElem_toArray, List.getElem_cons_succ, List.getElem_cons_zero, List.setIfInBounds_toArray, List.set_cons_zero, List.set_cons_succ]
                refine wpAnyH_take (i := 4) (v := .slice xa xn xc) rfl (by kernel_rfl) (by kernel_rfl) (by kernel_rfl) (fun _ _ _ h => h) (Or.inl ⟨by rfl, ?_⟩) hHeld ?_
                · intro w' hSw; have kx := (World.cell?_of_block (hSw.block g hgw)).trans gx; go_simp
                try simp only [Act.put, List.getElem_toArray, List.getElem_cons_succ, List.getElem_cons_zero, List.setIfInBounds_toArray, List.set_cons_zero, List.set_cons_succ]
                refine wpAnyH_take (i := 5) (v := .slice (some ⟨g, k0, none⟩) n2 c2) rfl (by kernel_rfl) (by kernel_rfl) (by kernel_rfl) (fun _ _ _ h => h) (Or.inl ⟨by rfl, ?_⟩) hHeld ?_
                · intro w' hSw; go_simp <;> omega
                try simp only [Act.put, List.getElem_toArray, List.getElem_cons_succ, List.getElem_cons_zero, List.setIfInBounds_toArray, List.set_cons_zero, List.set_cons_succ]
                refine wpAnyH_take (i := 6) (v := .int .i64 ((k2 : Int))) rfl (by kernel_rfl) (by kernel_rfl) (by kernel_rfl) (fun _ _ _ h => h) (Or.inl ⟨by rfl, ?_⟩) hHeld ?_
                · intro w' hSw; go_simp <;> omega
                try simp only [Act.put, List.getElem_toArray, List.getElem_cons_succ, List.getElem_cons_zero, List.setIfInBounds_toArray, List.set_cons_zero, List.set_cons_succ]
                refine wpAnyH_take (i := 7) (v := .int .i64 ((m2 : Int))) rfl (by kernel_rfl) (by kernel_rfl) (by kernel_rfl) (fun _ _ _ h => h) (Or.inl ⟨by rfl, ?_⟩) hHeld ?_
                · intro w' hSw; go_simp <;> omega
                try simp only [Act.put, List.getElem_toArray, List.getElem_cons_succ, List.getElem_cons_zero, List.setIfInBounds_toArray, List.set_cons_zero, List.set_cons_succ]
                refine wpAnyH_take (i := 8) (v := .pointer (some ⟨g, k0 + m2, none⟩)) rfl (by kernel_rfl) (by kernel_rfl) (by kernel_rfl) (fun _ _ _ h => h) (Or.inl ⟨by rfl, ?_⟩) hHeld ?_
                · intro w' hSw; go_simp <;> omega
                try simp only [Act.put, List.getElem_toArray, List.getElem_cons_succ, List.getElem_cons_zero, List.setIfInBounds_toArray, List.set_cons_zero, List.set_cons_succ]
                refine wpAnyH_take (i := 9) (v := .slice ya yn yc) rfl (by kernel_rfl) (by kernel_rfl) (by kernel_rfl) (fun _ _ _ h => h) (Or.inl ⟨by rfl, ?_⟩) hHeld ?_
                · intro w' hSw; have kx := (World.cell?_of_block (hSw.block g hgw)).trans gy; go_simp
                try simp only [Act.put, List.getElem_toArray, List.getElem_cons_succ, List.getElem_cons_zero, List.setIfInBounds_toArray, List.set_cons_zero, List.set_cons_succ]
                refine wpAnyH_ready (rs := [10]) (by kernel_rfl) (by simp) ?_
                refine allCall (f := 114) (args := #[.slice xa xn xc, .slice ya yn yc]) rfl (by kernel_rfl) (by kernel_rfl) ?_ AllReadyH.nil
                refine eqRows_any lo wi.heap.size lo wi.heap.size X Y _ _ _ (Sl.below (OwnV.sl Hrx.out) Row1.loc hS0 (Nat.le_refl _)) (Sl.below (OwnV.sl Hry.out) Row1.loc hS0 (Nat.le_refl _)) (Nat.le_refl _) (Nat.le_refl _) _ (fun w5b hg5 => ?_)
                refine ⟨_, rfl, hS0.trans (hg5.below.mono (Nat.le_refl _)), ?_⟩
                have HB5 := Lib.hid (hS0.trans (hg5.below.mono (Nat.le_refl _)))
                clear hg5 hHeld
                have hHeld := HB5.out
                rw [hcmp]
                try simp only [Act.put, List.getElem_toArray, List.getElem_cons_succ, List.getElem_cons_zero, List.setIfInBounds_toArray, List.set_cons_zero, List.set_cons_succ]
                refine wpAnyH_take (i := 11) (v := .bool true) rfl (by kernel_rfl) (by kernel_rfl) (by kernel_rfl) (fun _ _ _ h => h) (Or.inl ⟨by rfl, ?_⟩) hHeld ?_
                · intro w' hSw; go_simp <;> omega
                try simp only [Act.put, List.getElem_toArray, List.getElem_cons_succ, List.getElem_cons_zero, List.setIfInBounds_toArray, List.set_cons_zero, List.set_cons_succ]
                refine wpAnyH_done (by kernel_rfl) ?_ _
                clear hHeld
                have Hne : Hid (cmpR X Y ≠ 0) := Lib.hid (by simpa using hcmp)
                clear hcmp
                have gx5 : w5b.cell? ⟨g, k0 + k2, none⟩ = some (.slice xa xn xc) := (World.cell?_of_block (HB5.out.block g hgw)).trans gx
                have gk5 := (World.cell?_of_block (a := ⟨g, k', none⟩) (HB5.out.block g hgw)).trans gk
                have fk5 : w5b.frozen? ⟨g, k', none⟩ = false := by have hb := HB5.out.block g hgw; simpa [World.frozen?, hb] using fk
                have HO5 := Lib.hid (Own.setAt (Own.kept Ho'.out HB5.out) (j := k') (by rw [Hlen'.out]; omega) (.slice xa xn xc))
                have HOn5 := Lib.hid ((HOn.out.trans (Below.only HB5.out)).trans (Only.setCell (A := fun z => z = g) w5b (p := ⟨g, k', none⟩) rfl (.slice xa xn xc)))
                have Hs5 : Hid (∀ j, k0 + (k2 + 1) ≤ j + 1 → (hs'.set k' (.slice xa xn xc))[j]? = hs[j]?) := Lib.hid (fun j hj => by
                  rw [List.getElem?_set_ne (by omega)]
                  exact Hsame.out j (by omega))
                have Ht5 : Hid ((hs'.set k' (.slice xa xn xc)).take (k' + 1) = (ix ++ [k0 + k2]).map (fun i => hs.getD i (.slice none 0 0))) := Lib.hid (by
                  rw [List.map_append, ← Htk.out, List.take_succ_eq_append_getElem (by rw [List.length_set, Hlen'.out]; omega), List.take_set_of_le (Nat.le_refl _), List.getElem_set_self]
                  simp only [List.map_cons, List.map_nil, Hhd.out])
                have Hc5 : Hid (compactL cmpR (xs.take (k0 + (k2 + 1))) = (ix ++ [k0 + k2]).map (fun i => xs.getD i [])) := Lib.hid (by
                  rw [← Nat.add_assoc, Hst.out, if_neg Hne.out, Hcx.out, List.map_append]
                  simp only [List.map_cons, List.map_nil, Hxd.out])
                clear gx gy gk fk Hrx Hry
                go_wp2_with fail
                go_roundw
                case rel => exact ⟨k' + 1, k2 + 1, _, ix ++ [k0 + k2], by omega, by omega, by omega, by go_num, by go_num, HO5.out, Hs5.out, by rw [List.length_set]; exact Hlen'.out, by rw [List.length_append, Hixl.out]; rfl, Ht5.out, Hc5.out, fun i hi => by
                  rcases List.mem_append.1 hi with hi | hi
                  · exact Hixn.out i hi
                  · rw [List.mem_singleton] at hi; omega, HOn5.out⟩
                case measure => simp [intOf]; omega
              · have hS0 : Below wi.heap.size wi wi.drew := (Below.refl _ _).drew
                refine wp_region_held_drew (S := fun w' => Below wi.heap.size wi w') (by kernel_rfl) hS0 (fun hHeld => ?_)
                refine wpAnyH_take (i := 0) (v := .func (.func 114) #[] #[]) rfl (by kernel_rfl) (by kernel_rfl) (by kernel_rfl) (fun _ _ _ h => h) (Or.inl ⟨by rfl, ?_⟩) hHeld ?_
                · intro w' hSw; go_simp <;> omega
                try simp only [Act.put, List.getElem_toArray, List.getElem_cons_succ, List.getElem_cons_zero, List.setIfInBounds_toArray, List.set_cons_zero, List.set_cons_succ]
                refine wpAnyH_take (i := 1) (v := .slice (some ⟨g, k0, none⟩) n2 c2) rfl (by kernel_rfl) (by kernel_rfl) (by kernel_rfl) (fun _ _ _ h => h) (Or.inl ⟨by rfl, ?_⟩) hHeld ?_
                · intro w' hSw; go_simp <;> omega
                try simp only [Act.put, List.getElem_toArray, List.getElem_cons_succ, List.getElem_cons_zero, List.setIfInBounds_toArray, List.set_cons_zero, List.set_cons_succ]
                refine wpAnyH_take (i := 2) (v := .int .i64 ((k2 : Int))) rfl (by kernel_rfl) (by kernel_rfl) (by kernel_rfl) (fun _ _ _ h => h) (Or.inl ⟨by rfl, ?_⟩) hHeld ?_
                · intro w' hSw; go_simp <;> omega
                try simp only [Act.put, List.getElem_toArray, List.getElem_cons_succ, List.getElem_cons_zero, List.setIfInBounds_toArray, List.set_cons_zero, List.set_cons_succ]
                refine wpAnyH_take (i := 3) (v := .pointer (some ⟨g, k0 + k2, none⟩)) rfl (by kernel_rfl) (by kernel_rfl) (by kernel_rfl) (fun _ _ _ h => h) (Or.inl ⟨by rfl, ?_⟩) hHeld ?_
                · intro w' hSw; go_simp <;> omega
                try simp only [Act.put, List.getElem_toArray, List.getElem_cons_succ, List.getElem_cons_zero, List.setIfInBounds_toArray, List.set_cons_zero, List.set_cons_succ]
                refine wpAnyH_take (i := 4) (v := .slice xa xn xc) rfl (by kernel_rfl) (by kernel_rfl) (by kernel_rfl) (fun _ _ _ h => h) (Or.inl ⟨by rfl, ?_⟩) hHeld ?_
                · intro w' hSw; have kx := (World.cell?_of_block (hSw.block g hgw)).trans gx; go_simp
                try simp only [Act.put, List.getElem_toArray, List.getElem_cons_succ, List.getElem_cons_zero, List.setIfInBounds_toArray, List.set_cons_zero, List.set_cons_succ]
                refine wpAnyH_take (i := 5) (v := .slice (some ⟨g, k0, none⟩) n2 c2) rfl (by kernel_rfl) (by kernel_rfl) (by kernel_rfl) (fun _ _ _ h => h) (Or.inl ⟨by rfl, ?_⟩) hHeld ?_
                · intro w' hSw; go_simp <;> omega
                try simp only [Act.put, List.getElem_toArray, List.getElem_cons_succ, List.getElem_cons_zero, List.setIfInBounds_toArray, List.set_cons_zero, List.set_cons_succ]
                refine wpAnyH_take (i := 6) (v := .int .i64 ((k2 : Int))) rfl (by kernel_rfl) (by kernel_rfl) (by kernel_rfl) (fun _ _ _ h => h) (Or.inl ⟨by rfl, ?_⟩) hHeld ?_
                · intro w' hSw; go_simp <;> omega
                try simp only [Act.put, List.getElem_toArray, List.getElem_cons_succ, List.getElem_cons_zero, List.setIfInBounds_toArray, List.set_cons_zero, List.set_cons_succ]
                refine wpAnyH_take (i := 7) (v := .int .i64 ((m2 : Int))) rfl (by kernel_rfl) (by kernel_rfl) (by kernel_rfl) (fun _ _ _ h => h) (Or.inl ⟨by rfl, ?_⟩) hHeld ?_
                · intro w' hSw; go_simp <;> omega
                try simp only [Act.put, List.getElem_toArray, List.getElem_cons_succ, List.getElem_cons_zero, List.setIfInBounds_toArray, List.set_cons_zero, List.set_cons_succ]
                refine wpAnyH_take (i := 8) (v := .pointer (some ⟨g, k0 + m2, none⟩)) rfl (by kernel_rfl) (by kernel_rfl) (by kernel_rfl) (fun _ _ _ h => h) (Or.inl ⟨by rfl, ?_⟩) hHeld ?_
                · intro w' hSw; go_simp <;> omega
                try simp only [Act.put, List.getElem_toArray, List.getElem_cons_succ, List.getElem_cons_zero, List.setIfInBounds_toArray, List.set_cons_zero, List.set_cons_succ]
                refine wpAnyH_take (i := 9) (v := .slice ya yn yc) rfl (by kernel_rfl) (by kernel_rfl) (by kernel_rfl) (fun _ _ _ h => h) (Or.inl ⟨by rfl, ?_⟩) hHeld ?_
                · intro w' hSw; have kx := (World.cell?_of_block (hSw.block g hgw)).trans gy; go_simp
                try simp only [Act.put, List.getElem_toArray, List.getElem_cons_succ, List.getElem_cons_zero, List.setIfInBounds_toArray, List.set_cons_zero, List.set_cons_succ]
                refine wpAnyH_ready (rs := [10]) (by kernel_rfl) (by simp) ?_
                refine allCall (f := 114) (args := #[.slice xa xn xc, .slice ya yn yc]) rfl (by kernel_rfl) (by kernel_rfl) ?_ AllReadyH.nil
                refine eqRows_any lo wi.heap.size lo wi.heap.size X Y _ _ _ (Sl.below (OwnV.sl Hrx.out) Row1.loc hS0 (Nat.le_refl _)) (Sl.below (OwnV.sl Hry.out) Row1.loc hS0 (Nat.le_refl _)) (Nat.le_refl _) (Nat.le_refl _) _ (fun w5b hg5 => ?_)
                refine ⟨_, rfl, hS0.trans (hg5.below.mono (Nat.le_refl _)), ?_⟩
                have HB5 := Lib.hid (hS0.trans (hg5.below.mono (Nat.le_refl _)))
                clear hg5 hHeld
                have hHeld := HB5.out
                rw [hcmp]
                try simp only [Act.put, List.getElem_toArray, List.getElem_cons_succ, List.getElem_cons_zero, List.setIfInBounds_toArray, List.set_cons_zero, List.set_cons_succ]
                refine wpAnyH_take (i := 11) (v := .bool false) rfl (by kernel_rfl) (by kernel_rfl) (by kernel_rfl) (fun _ _ _ h => h) (Or.inl ⟨by rfl, ?_⟩) hHeld ?_
                · intro w' hSw; go_simp <;> omega
                try simp only [Act.put, List.getElem_toArray, List.getElem_cons_succ, List.getElem_cons_zero, List.setIfInBounds_toArray, List.set_cons_zero, List.set_cons_succ]
                refine wpAnyH_done (by kernel_rfl) ?_ _
                clear hHeld
                have Heq : Hid (cmpR X Y = 0) := Lib.hid (by simpa using hcmp)
                clear hcmp gx gy gk fk Hrx Hry
                go_wp2_with fail
                go_roundw
                case rel => exact ⟨k', k2 + 1, hs', ix, by omega, by omega, by omega, rfl, by go_num, Own.kept Ho'.out HB5.out, fun j hj => Hsame.out j (by omega), Hlen'.out, Hixl.out, Htk.out, by rw [← Nat.add_assoc, Hst.out, if_pos Heq.out]; exact Hcx.out, Hixn.out, HOn.out.trans (Below.only HB5.out)⟩
                case measure => simp [intOf]; omega
            · have hn2 := Hn2.out
              have hall : k0 + k2 = n := by have := Hk0.out; omega
              have hk'n : k' < n := by omega
              obtain ⟨g', c', hv', -, hgw, -, -, hcells, hfr⟩ := Own.form Ho'.out (by intro e; have := Hlen'.out; rw [e] at this; simp at this; omega)
              injection hv' with e1 e2 e3
              injection e1 with e1
              injection e1 with e1
              subst e1 e3
              clear e2
              rw [flat_vE] at hcells
              have hcl := fun ty => Lib.run_clear_slice (P := Try.prog) wi 32 42 ty (.slice none 0 0) Try.underlying32 (fun w => by kernel_rfl) rfl rfl g k' (n - k') (c - k') (by omega)
                (fun j hj => by
                  have := hcells (k' + j) _ (List.getElem?_eq_getElem (by rw [Hlen'.out]; omega))
                  rw [Nat.zero_add] at this
                  rw [this]; rfl) (fun j hj => hfr _)
              have hrf := run_from g n c k' hk'n hnc hcm
              have hrt := Hrt.out k' (by omega)
              have hcx := Hcx.out
              rw [hall, List.take_of_length_le (by rw [← Hl.out]; exact Nat.le_refl _)] at hcx
              have hOnF := HOn.out.trans (only_setCells g (List.replicate (n - k') (.slice none 0 0)) wi k')
              have hcut := Own.cut Ho'.out (k := k') (by rw [Hlen'.out]; omega)
              have hown := Own.setOut (List.replicate (n - k') (.slice none 0 0)) wi k' hcut (by rw [List.length_take]; omega)
              have hlk : (hs'.take k').length = k' := by rw [List.length_take, Hlen'.out]; omega
              have hr := HR.out (wi.setCells g k' (List.replicate (n - k') (.slice none 0 0))) (.slice (some ⟨g, 0, none⟩) k' c) (hs'.take k') (hOnF.mono (fun z _ hz => by rw [hz]; rfl)) (by
                refine ⟨hown, by rw [hlk, hcx, List.length_map, Hixl.out], fun i hi hi2 => ?_, fun i hi q hq => ?_⟩
                · have hii : i < ix.length := by rw [hlk] at hi; rw [Hixl.out]; exact hi
                  have hin := Hixn.out _ (List.getElem_mem hii)
                  have e1 : (hs'.take k')[i] = hs[ix[i]]'(by rw [← Hn.out]; exact hin) := by
                    simp only [Htk.out, List.getElem_map]
                    exact getDS hs _ _ (by rw [← Hn.out]; exact hin)
                  have e2 : (compactL cmpR xs)[i] = xs[ix[i]]'(by rw [← Hl.out]; exact hin) := by
                    simp only [hcx, List.getElem_map]
                    exact getDS xs _ _ (by rw [← Hl.out]; exact hin)
                  rw [e1, e2]
                  exact Hrow.out _ hOnF _ _ _
                · have hii : i < ix.length := by rw [hlk] at hi; rw [Hixl.out]; exact hi
                  have hin := Hixn.out _ (List.getElem_mem hii)
                  have e1 : (hs'.take k')[i] = hs[ix[i]]'(by rw [← Hn.out]; exact hin) := by
                    simp only [Htk.out, List.getElem_map]
                    exact getDS hs _ _ (by rw [← Hn.out]; exact hin)
                  rw [e1] at hq
                  have := Hap.out _ _ q hq
                  intro e
                  exact this (by simpa [Value.ownBlock, eq_comm] using e))
              have k2n : ¬ (k2 : Int) < (n2 : Int) := by omega
              clear hcells hfr hOnF hcut hown hcx hlk
              go_wp2_with fail
              first | exact hr | exact fin hr rfl
      · obtain rfl : k = n := by omega
        have hcx := Hc.out
        rw [List.take_of_length_le (by rw [← Hl.out]; exact Nat.le_refl _)] at hcx
        have hr := HR.out wo _ hs (Below.only HB.out) (by rw [hcx]; exact H.out.kept HB.out)
        clear hcx
        have nn : ¬ ((k : Nat) : Int) < (k : Int) := by omega
        go_wp2_with fail
        first | exact hr | exact fin hr rfl
end Go.Proofs.Ytpncblagjkbemaa
