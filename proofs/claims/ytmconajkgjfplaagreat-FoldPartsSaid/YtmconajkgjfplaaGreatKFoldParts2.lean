/- Texts that the proofs of FoldParts stand on, part 2. -/
import Derived.Sort.LotA
import Derived.Shelf.SlSortCmp.Insertion1
import Derived.Deep.Slices
import Derived.Test.YtmconajkgjfplaaGreatKFoldParts1
/- slices.CompactFunc of rows of a call's own. (Printed by rowe.py.) -/
section
set_option linter.unusedVariables false
set_option linter.unusedSimpArgs false
namespace Go.Proofs.YtmconajkgjfplaaGreat
open Go.RowKit
set_option linter.unusedVariables false
set_option linter.unusedSimpArgs false

set_option maxRecDepth 100000 in
set_option maxHeartbeats 2000000 in
theorem eqRows_any (lo hi lo2 hi2 : Nat) (x y : List V) (vx vy : Value) (w : World) (hx : Row1 lo hi w vx x) (hy : Row1 lo2 hi2 w vy y) (hhi : hi ≤ w.heap.size) (hhi2 : hi2 ≤ w.heap.size) (R : Ending → World → Prop)
    (hR : ∀ w', Gw w w' → R (.returned (.bool (cmpR x y == 0))) w') : Calls Tryz.prog 60 #[vx, vy] w R := by
  have HR := Lib.hid hR
  have Hx := Lib.hid hx
  have Hy := Lib.hid hy
  obtain ⟨ax, cx, rfl, -, -, -, -⟩ := hx.form
  obtain ⟨ay, cy, rfl, -, -, -, -⟩ := hy.form
  clear hR hx hy
  go_enter Tryz.func60, Tryz.ntmps60
  go_wp2_with fail
  refine rowsCompare_any lo hi lo2 hi2 x y _ _ w Hx.out Hy.out hhi hhi2 _ (fun w1 hg => ?_)
  have hr := HR.out w1 hg
  generalize cmpR x y = c at *
  clear hg
  go_wp2_with fail
  first | exact hr | exact fin hr rfl | exact fin hr (by simp)
theorem Own.setH {lo g n c j : Nat} {w : World} {hs : List Value} (h : OwnH lo w (.slice (some ⟨g, 0, none⟩) n c) hs) (u : Value) : OwnH lo (w.setCell ⟨g, j, none⟩ u) (.slice (some ⟨g, 0, none⟩) n c) (if j < hs.length then hs.set j u else hs) := by
  obtain ⟨h1, h2⟩ := h
  rcases h2 with ⟨ee, hn⟩ | ⟨g', cap, cur, ee, hb, hg, hnc, hcm, hcs, htake⟩
  · cases ee
  · injection ee with e1 e2 e3
    injection e1 with e1
    injection e1 with e1
    subst e1 e2 e3
    have hB : Blk w g cur.toList 36 := by unfold Blk; simpa using hg
    have hB2 := hB.set j u
    rw [flat_vE] at htake
    by_cases hj : j < hs.length
    · rw [if_pos hj]
      refine ⟨by simp [flat_vE], .inr ⟨g, c, (cur.toList.set j u).toArray, by simp, hb, hB2, by simpa using hnc, hcm, by simpa using hcs, ?_⟩⟩
      rw [List.length_set, List.toList_toArray, List.take_set, htake, flat_vE]
    · rw [if_neg hj]
      refine ⟨h1, .inr ⟨g, c, (cur.toList.set j u).toArray, rfl, hb, hB2, hnc, hcm, by simpa using hcs, ?_⟩⟩
      rw [List.toList_toArray, List.take_set_of_le (by omega), htake, flat_vE]
theorem Own.setAt {lo g n c j : Nat} {w : World} {hs : List Value} (h : OwnH lo w (.slice (some ⟨g, 0, none⟩) n c) hs) (hj : j < hs.length) (u : Value) : OwnH lo (w.setCell ⟨g, j, none⟩ u) (.slice (some ⟨g, 0, none⟩) n c) (hs.set j u) := by
  have := Own.setH h u (j := j)
  rwa [if_pos hj] at this
theorem Own.setOut {lo g n c : Nat} {hs : List Value} (us : List Value) : ∀ (w : World) (j : Nat), OwnH lo w (.slice (some ⟨g, 0, none⟩) n c) hs → hs.length ≤ j → OwnH lo (w.setCells g j us) (.slice (some ⟨g, 0, none⟩) n c) hs := by
  induction us with
  | nil => intro w j h _; exact h
  | cons u r ih =>
    intro w j h hj
    have := Own.setH h u (j := j)
    rw [if_neg (by omega)] at this
    exact ih _ (j + 1) this (by omega)
theorem Own.cut {lo g n c k : Nat} {w : World} {hs : List Value} (h : OwnH lo w (.slice (some ⟨g, 0, none⟩) n c) hs) (hk : k ≤ hs.length) : OwnH lo w (.slice (some ⟨g, 0, none⟩) k c) (hs.take k) := by
  obtain ⟨h1, h2⟩ := h
  have hl : (hs.take k).length = k := by rw [List.length_take]; omega
  rcases h2 with ⟨ee, hn⟩ | ⟨g', cap, cur, ee, hb, hg, hnc, hcm, hcs, htake⟩
  · cases ee
  · injection ee with e1 e2 e3
    injection e1 with e1
    injection e1 with e1
    subst e1 e2 e3
    rw [flat_vE, Nat.mul_one] at htake
    refine ⟨by rw [flat_vE, Nat.mul_one], .inr ⟨g, c, cur, by rw [hl], hb, hg, by omega, hcm, hcs, ?_⟩⟩
    rw [hl, flat_vE, Nat.mul_one, ← htake, List.take_take, Nat.min_eq_left hk]
theorem only_setCells (g : Nat) (us : List Value) : ∀ (w : World) (j : Nat), Only (fun z => z = g) w (w.setCells g j us) := by
  induction us with
  | nil => intro w j; exact Only.refl _ _
  | cons u r ih => intro w j; exact (Only.setCell (A := fun z => z = g) w (p := ⟨g, j, none⟩) rfl u).trans (ih _ _)
theorem compactL_snoc {α : Type} {c : α → α → Int} (h : Cmp c) : ∀ (l : List α) (x y : α), compactL c (l ++ [x] ++ [y]) = if c y x = 0 then compactL c (l ++ [x]) else compactL c (l ++ [x]) ++ [y]
  | [], x, y => by
    simp only [List.nil_append, List.cons_append, compactL]
    split
    · rename_i h0; rw [(h.zero _ _).1 h0]
    · rfl
  | a :: l, x, y => by
    have ih := compactL_snoc h l x y
    cases l with
    | nil =>
      simp only [List.cons_append, List.nil_append, compactL]
      by_cases h1 : c x a = 0 <;> by_cases h2 : c y x = 0
      · rw [if_pos h1, if_pos h2, if_pos h1, if_pos h2, (h.zero _ _).1 h2]
      · rw [if_pos h1, if_neg h2, if_pos h1, if_neg h2]; rfl
      · rw [if_neg h1, if_pos h2, if_neg h1, if_pos h2, (h.zero _ _).1 h2]
      · rw [if_neg h1, if_neg h2, if_neg h1, if_neg h2]; rfl
    | cons b l =>
      simp only [List.cons_append] at ih ⊢
      rw [compactL, ih, compactL]
      by_cases h1 : c b a = 0 <;> by_cases h2 : c y x = 0
      · rw [if_pos h1, if_pos h2, if_pos h1, if_pos h2]
      · rw [if_pos h1, if_neg h2, if_pos h1, if_neg h2]
      · rw [if_neg h1, if_pos h2, if_neg h1, if_pos h2]
      · rw [if_neg h1, if_neg h2, if_neg h1, if_neg h2]; rfl
theorem compact_take {xs : List (List V)} {k : Nat} (h1 : 1 ≤ k) (h2 : k < xs.length) : compactL cmpR (xs.take (k + 1)) = if cmpR xs[k] xs[k - 1] = 0 then compactL cmpR (xs.take k) else compactL cmpR (xs.take k) ++ [xs[k]] := by
  have e1 : xs.take k = xs.take (k - 1) ++ [xs[k - 1]] := by
    rw [← List.take_succ_eq_append_getElem (by omega), Nat.sub_add_cancel h1]
  rw [List.take_succ_eq_append_getElem h2, e1, compactL_snoc cmpR_cmp]
theorem wrap_ok {x : Int} (h1 : 0 ≤ x) (h2 : x ≤ 9223372036854775807) : IntKind.i64.wrap x = x := by
  simp [IntKind.wrap, IntKind.bits, IntKind.signed]; omega
set_option maxRecDepth 100000 in
theorem run_from (g n c k : Nat) (hk : k < n) (hn : n ≤ c) (hc : c ≤ 9223372036854775807) (w' : World) : (Instr.slice 23 (.slice (some ⟨g, 0, none⟩) n c) (some (.int .i64 (k : Int))) none none).run Tryz.prog w' = .ok (.slice (some ⟨g, k, none⟩) (n - k) (c - k)) w' := by
  rw [run_slice_l w' 23 _ n c Tryz.underlying23 .i64 (k : Int) (by omega) (by omega)]
  have hsz : ∀ w, (sizeOf (Tryz.prog.elem 23)).run Tryz.prog w = .ok 1 w := fun w => by kernel_rfl
  simp only [hsz, Result.andThen, Int.toNat_natCast, sliced]
  rw [if_neg (by omega)]
  simp [Addr.add] <;> omega
theorem take_range' {α : Type} (l : List α) (d : α) (k : Nat) (h : k ≤ l.length) : l.take k = (List.range k).map (fun i => l.getD i d) := by
  apply List.ext_getElem
  · simp; omega
  · intro i h1 h2
    have : i < l.length := by rw [List.length_take] at h1; omega
    simp [List.getD, this]
set_option maxRecDepth 100000 in
theorem run_to (g n c k : Nat) (hk : k ≤ n) (hn : n ≤ c) (hc : c ≤ 9223372036854775807) (w' : World) : (Instr.slice 23 (.slice (some ⟨g, 0, none⟩) n c) none (some (.int .i64 (k : Int))) none).run Tryz.prog w' = .ok (.slice (some ⟨g, 0, none⟩) k c) w' := by
  rw [run_slice_h w' 23 _ n c Tryz.underlying23 .i64 (k : Int) (by omega) (by omega)]
  have hsz : ∀ w, (sizeOf (Tryz.prog.elem 23)).run Tryz.prog w = .ok 1 w := fun w => by kernel_rfl
  simp only [hsz, Result.andThen, Int.toNat_natCast, sliced]
  split <;> simp [Addr.add]
set_option maxRecDepth 100000 in
set_option maxHeartbeats 8000000 in
theorem compact_any (lo : Nat) (v : Value) (hs : List Value) (xs : List (List V)) (w : World) (h : OwnR lo w v hs xs) (hlen : xs.length ≤ 1000000000000) (R : Ending → World → Prop)
    (hR : ∀ w' v' hs', Only (fun z => v.ownBlock = some z) w w' → OwnR lo w' v' hs' (compactL cmpR xs) → R (.returned v') w') :
    Calls Tryz.prog 59 #[v, .func (.func 60) #[] #[]] w R := by
  have HR := Lib.hid hR
  have hl := h.len
  clear hR
  by_cases hsm : hs.length < 2
  · have hc : compactL cmpR xs = xs := by
      match xs, hl with
      | [], _ => rfl
      | [x], _ => rfl
      | _ :: _ :: _, e => rw [e] at hsm; simp only [List.length_cons] at hsm; omega
    have hr := HR.out w v hs (Only.refl _ _) (by rw [hc]; exact h)
    obtain ⟨p, c, rfl⟩ := Own.slice h.own
    have hi : (hs.length : Int) < 2 := by omega
    go_enter Tryz.func59, Tryz.ntmps59
    go_wp2_with fail
    first | exact hr | exact fin hr rfl
  · obtain ⟨g, c, hv, hb, hgl, hnc, hcm, -, -⟩ := Own.form h.own (by intro e; rw [e] at hsm; simp at hsm)
    subst hv
    obtain ⟨n, hn⟩ : ∃ n, n = hs.length := ⟨_, rfl⟩
    rw [← hn] at h hl hsm hnc ⊢
    have Hn := Lib.hid hn
    have Hl := Lib.hid hl
    have H := Lib.hid h
    have n2 : ¬ (n : Int) < 2 := by omega
    have hnx : n ≤ 1000000000000 := by omega
    have hap : ∀ i (hi : i < hs.length) k, hs[i].ownBlock = some k → k ≠ g := fun i hi k hk e => h.apart i hi k hk (by rw [e]; rfl)
    have Hap := Lib.hid hap
    -- a row, in whatever world in which block g alone has turned
    have hrow : ∀ w' : World, Only (fun z => z = g) w w' → ∀ i (hi : i < hs.length) (hi2 : i < xs.length), OwnV lo w' hs[i] xs[i] := fun w' ho i hi hi2 =>
      Own.same (h.row i hi hi2) (fun k hk => ho.block k (Own.lt (h.row i hi hi2) k hk).2 (hap i hi k hk))
    have Hrow := Lib.hid hrow
    clear hn hl h hap hrow
    go_enter Tryz.func59, Tryz.ntmps59
    go_wp2_with fail
    go_loopw [5] (fun t5 wr => ∃ k : Nat, 1 ≤ k ∧ k ≤ n ∧ t5 = .int .i64 k ∧ Below w.heap.size w wr ∧ compactL cmpR (xs.take k) = xs.take k) (fun t5 _ => n - (intOf t5).toNat)
    case atStart => exact ⟨1, Nat.le_refl _, by omega, rfl, Below.refl _ _, by
      have := Hl.out
      cases xs with
      | nil => rfl
      | cons a r => rfl⟩
    case round =>
      obtain ⟨k, hk1, hkn, rfl, hB, hc⟩ := hrel
      obtain ⟨wo, ewo⟩ : ∃ x, x = wr := ⟨_, rfl⟩
      subst ewo
      have HB := Lib.hid hB
      have Hc := Lib.hid hc
      have hz := hB.size
      clear hB hc
      have kk0 : (0 : Int) ≤ (k : Int) := by omega
      by_cases hlt : k < n
      · obtain ⟨m, hm⟩ : ∃ m, k = m + 1 := ⟨k - 1, by omega⟩
        have hks : k < hs.length := by rw [← Hn.out]; exact hlt
        have hms : m < hs.length := by rw [← Hn.out]; omega
        have hkx : k < xs.length := by rw [← Hl.out]; exact hlt
        have hmx : m < xs.length := by rw [← Hl.out]; omega
        have wsub : IntKind.i64.wrap ((k : Int) - 1) = (m : Int) := by rw [show (k : Int) - 1 = (m : Int) by omega]; exact wrap_ok (by omega) (by omega)
        have hO : OwnH lo wo (.slice (some ⟨g, 0, none⟩) n c) hs := Own.kept H.out.own HB.out
        obtain ⟨g', c', hv', -, -, -, -, hcells, hfr⟩ := Own.form hO (by intro e; rw [e] at hks; simp at hks)
        injection hv' with e1 e2 e3
        injection e1 with e1
        injection e1 with e1
        subst e1 e3
        clear e2
        rw [flat_vE] at hcells
        have gx := hcells k _ (List.getElem?_eq_getElem hks)
        have gy := hcells m _ (List.getElem?_eq_getElem hms)
        rw [Nat.zero_add] at gx gy
        have Hrx := Lib.hid (Hrow.out _ (Below.only HB.out) k hks hkx)
        have Hry := Lib.hid (Hrow.out _ (Below.only HB.out) m hms hmx)
        have Hst := Lib.hid (compact_take (xs := xs) hk1 hkx)
        have Htk := Lib.hid (List.take_succ_eq_append_getElem hkx)
        rw [show xs[k - 1]'(by omega) = xs[m] by congr 1; omega] at Hst
        obtain ⟨xa, xc, ex⟩ := Own.slice Hrx.out
        obtain ⟨ya, yc, ey⟩ := Own.slice Hry.out
        obtain ⟨X, hX⟩ : ∃ X, X = xs[k] := ⟨_, rfl⟩
        obtain ⟨Y, hY⟩ : ∃ Y, Y = xs[m] := ⟨_, rfl⟩
        rw [← hX] at ex Hrx Hst Htk
        rw [← hY] at ey Hry Hst
        obtain ⟨xn, hxn⟩ : ∃ xn, xn = X.length := ⟨_, rfl⟩
        obtain ⟨yn, hyn⟩ : ∃ yn, yn = Y.length := ⟨_, rfl⟩
        rw [← hxn] at ex
        rw [← hyn] at ey
        rw [ex] at gx Hrx
        rw [ey] at gy Hry
        have hgw : g < wo.heap.size := by omega
        have kn : (k : Int) < (n : Int) := by omega
        have mn : (m : Int) < (n : Int) := by omega
        have m0 : (0 : Int) ≤ (m : Int) := by omega
        have Hm := Lib.hid hm
        clear hO hcells hX hY hxn hyn hm ex ey
        go_upto_region 6 with fail
        cases hcmp : (cmpR X Y == 0)
        · have hS0 : Below wo.heap.size wo wo.drew := (Below.refl _ _).drew
          refine wp_region_held_drew (S := fun w' => Below wo.heap.size wo w') (by kernel_rfl) hS0 (fun hHeld => ?_)
          refine wpAnyH_take (i := 0) (v := .func (.func 60) #[] #[]) rfl (by kernel_rfl) (by kernel_rfl) (by kernel_rfl) (fun _ _ _ h => h) (Or.inl ⟨by rfl, ?_⟩) hHeld ?_
          · intro w' hSw; go_simp <;> omega
          try simp only [Act.put, List.getElem_toArray, List.getElem_cons_succ, List.getElem_cons_zero, List.setIfInBounds_toArray, List.set_cons_zero, List.set_cons_succ]
          refine wpAnyH_take (i := 1) (v := .slice (some ⟨g, 0, none⟩) n c) rfl (by kernel_rfl) (by kernel_rfl) (by kernel_rfl) (fun _ _ _ h => h) (Or.inl ⟨by rfl, ?_⟩) hHeld ?_
          · intro w' hSw; go_simp <;> omega
          try simp only [Act.put, List.getElem_toArray, List.getElem_cons_succ, List.getElem_cons_zero, List.setIfInBounds_toArray, List.set_cons_zero, List.set_cons_succ]
          refine wpAnyH_take (i := 2) (v := .int .i64 ((k : Int))) rfl (by kernel_rfl) (by kernel_rfl) (by kernel_rfl) (fun _ _ _ h => h) (Or.inl ⟨by rfl, ?_⟩) hHeld ?_
          · intro w' hSw; go_simp <;> omega
          try simp only [Act.put, List.getElem_toArray, List.getElem_cons_succ, List.getElem_cons_zero, List.setIfInBounds_toArray, List.set_cons_zero, List.set_cons_succ]
          refine wpAnyH_take (i := 3) (v := .pointer (some ⟨g, k, none⟩)) rfl (by kernel_rfl) (by kernel_rfl) (by kernel_rfl) (fun _ _ _ h => h) (Or.inl ⟨by rfl, ?_⟩) hHeld ?_
          · intro w' hSw; go_simp <;> omega
          try simp only [Act.put, List.getElem_toArray, List.getElem_cons_succ, List.getElem_cons_zero, List.setIfInBounds_toArray, List.set_cons_zero, List.set_cons_succ]
          refine wpAnyH_take (i := 4) (v := .slice xa xn xc) rfl (by kernel_rfl) (by kernel_rfl) (by kernel_rfl) (fun _ _ _ h => h) (Or.inl ⟨by rfl, ?_⟩) hHeld ?_
          · intro w' hSw; have kx := (World.cell?_of_block (hSw.block g hgw)).trans gx; go_simp
          try simp only [Act.put, List.getElem_toArray, List.getElem_cons_succ, List.getElem_cons_zero, List.setIfInBounds_toArray, List.set_cons_zero, List.set_cons_succ]
          refine wpAnyH_take (i := 5) (v := .slice (some ⟨g, 0, none⟩) n c) rfl (by kernel_rfl) (by kernel_rfl) (by kernel_rfl) (fun _ _ _ h => h) (Or.inl ⟨by rfl, ?_⟩) hHeld ?_
          · intro w' hSw; go_simp <;> omega
          try simp only [Act.put, List.getElem_toArray, List.getElem_cons_succ, List.getElem_cons_zero, List.setIfInBounds_toArray, List.set_cons_zero, List.set_cons_succ]
          refine wpAnyH_take (i := 6) (v := .int .i64 ((k : Int))) rfl (by kernel_rfl) (by kernel_rfl) (by kernel_rfl) (fun _ _ _ h => h) (Or.inl ⟨by rfl, ?_⟩) hHeld ?_
          · intro w' hSw; go_simp <;> omega
          try simp only [Act.put, List.getElem_toArray, List.getElem_cons_succ, List.getElem_cons_zero, List.setIfInBounds_toArray, List.set_cons_zero, List.set_cons_succ]
          refine wpAnyH_take (i := 7) (v := .int .i64 ((m : Int))) rfl (by kernel_rfl) (by kernel_rfl) (by kernel_rfl) (fun _ _ _ h => h) (Or.inl ⟨by rfl, ?_⟩) hHeld ?_
          · intro w' hSw; go_simp <;> omega
          try simp only [Act.put, List.getElem_toArray, List.getElem_cons_succ, List.getElem_cons_zero, List.setIfInBounds_toArray, List.set_cons_zero, List.set_cons_succ]
          refine wpAnyH_take (i := 8) (v := .pointer (some ⟨g, m, none⟩)) rfl (by kernel_rfl) (by kernel_rfl) (by kernel_rfl) (fun _ _ _ h => h) (Or.inl ⟨by rfl, ?_⟩) hHeld ?_
          · intro w' hSw; go_simp <;> omega
          try simp only [Act.put, List.getElem_toArray, List.getElem_cons_succ, List.getElem_cons_zero, List.setIfInBounds_toArray, List.set_cons_zero, List.set_cons_succ]
          refine wpAnyH_take (i := 9) (v := .slice ya yn yc) rfl (by kernel_rfl) (by kernel_rfl) (by kernel_rfl) (fun _ _ _ h => h) (Or.inl ⟨by rfl, ?_⟩) hHeld ?_
          · intro w' hSw; have kx := (World.cell?_of_block (hSw.block g hgw)).trans gy; go_simp
          try simp only [Act.put, List.getElem_toArray, List.getElem_cons_succ, List.getElem_cons_zero, List.setIfInBounds_toArray, List.set_cons_zero, List.set_cons_succ]
          refine wpAnyH_ready (rs := [10]) (by kernel_rfl) (by simp) ?_
          refine allCall (f := 60) (args := #[.slice xa xn xc, .slice ya yn yc]) rfl (by kernel_rfl) (by kernel_rfl) ?_ AllReadyH.nil
          refine eqRows_any lo wo.heap.size lo wo.heap.size X Y _ _ _ (Sl.below (OwnV.sl Hrx.out) Row1.loc hS0 (Nat.le_refl _)) (Sl.below (OwnV.sl Hry.out) Row1.loc hS0 (Nat.le_refl _)) (Nat.le_refl _) (Nat.le_refl _) _ (fun w5 hg5 => ?_)
          refine ⟨_, rfl, hS0.trans (hg5.below.mono (Nat.le_refl _)), ?_⟩
          have HB5 := Lib.hid (hS0.trans (hg5.below.mono (Nat.le_refl _)))
          clear hg5 hHeld
          have hHeld := HB5.out
          rw [hcmp]
          try simp only [Act.put, List.getElem_toArray, List.getElem_cons_succ, List.getElem_cons_zero, List.setIfInBounds_toArray, List.set_cons_zero, List.set_cons_succ]
          refine wpAnyH_done (by kernel_rfl) ?_ _
          clear hHeld
          have Hne : Hid (cmpR X Y ≠ 0) := Lib.hid (by simpa using hcmp)
          clear hcmp
          have Hc2 : Hid (compactL cmpR (xs.take (k + 1)) = xs.take (k + 1)) := Lib.hid (by rw [Hst.out, if_neg Hne.out, Hc.out, Htk.out])
          go_wp2_with fail
          go_roundw
          case rel => exact ⟨k + 1, by omega, by omega, by go_num, HB.out.trans (HB5.out.mono hz), Hc2.out⟩
          case measure => simp [intOf]; omega
        · have hS0 : Below wo.heap.size wo wo.drew := (Below.refl _ _).drew
          refine wp_region_held_drew (S := fun w' => Below wo.heap.size wo w') (by kernel_rfl) hS0 (fun hHeld => ?_)
          refine wpAnyH_take (i := 0) (v := .func (.func 60) #[] #[]) rfl (by kernel_rfl) (by kernel_rfl) (by kernel_rfl) (fun _ _ _ h => h) (Or.inl ⟨by rfl, ?_⟩) hHeld ?_
          · intro w' hSw; go_simp <;> omega
          try simp only [Act.put, List.getElem_toArray, List.getElem_cons_succ, List.getElem_cons_zero, List.setIfInBounds_toArray, List.set_cons_zero, List.set_cons_succ]
          refine wpAnyH_take (i := 1) (v := .slice (some ⟨g, 0, none⟩) n c) rfl (by kernel_rfl) (by kernel_rfl) (by kernel_rfl) (fun _ _ _ h => h) (Or.inl ⟨by rfl, ?_⟩) hHeld ?_
          · intro w' hSw; go_simp <;> omega
          try simp only [Act.put, List.getElem_toArray, List.getElem_cons_succ, List.getElem_cons_zero, List.setIfInBounds_toArray, List.set_cons_zero, List.set_cons_succ]
          refine wpAnyH_take (i := 2) (v := .int .i64 ((k : Int))) rfl (by kernel_rfl) (by kernel_rfl) (by kernel_rfl) (fun _ _ _ h => h) (Or.inl ⟨by rfl, ?_⟩) hHeld ?_
          · intro w' hSw; go_simp <;> omega
          try simp only [Act.put, List.getElem_toArray, List.getElem_cons_succ, List.getElem_cons_zero, List.setIfInBounds_toArray, List.set_cons_zero, List.set_cons_succ]
          refine wpAnyH_take (i := 3) (v := .pointer (some ⟨g, k, none⟩)) rfl (by kernel_rfl) (by kernel_rfl) (by kernel_rfl) (fun _ _ _ h => h) (Or.inl ⟨by rfl, ?_⟩) hHeld ?_
          · intro w' hSw; go_simp <;> omega
          try simp only [Act.put, List.getElem_toArray, List.getElem_cons_succ, List.getElem_cons_zero, List.setIfInBounds_toArray, List.set_cons_zero, List.set_cons_succ]
          refine wpAnyH_take (i := 4) (v := .slice xa xn xc) rfl (by kernel_rfl) (by kernel_rfl) (by kernel_rfl) (fun _ _ _ h => h) (Or.inl ⟨by rfl, ?_⟩) hHeld ?_
          · intro w' hSw; have kx := (World.cell?_of_block (hSw.block g hgw)).trans gx; go_simp
          try simp only [Act.put, List.getElem_toArray, List.getElem_cons_succ, List.getElem_cons_zero, List.setIfInBounds_toArray, List.set_cons_zero, List.set_cons_succ]
          refine wpAnyH_take (i := 5) (v := .slice (some ⟨g, 0, none⟩) n c) rfl (by kernel_rfl) (by kernel_rfl) (by kernel_rfl) (fun _ _ _ h => h) (Or.inl ⟨by rfl, ?_⟩) hHeld ?_
          · intro w' hSw; go_simp <;> omega
          try simp only [Act.put, List.getElem_toArray, List.getElem_cons_succ, List.getElem_cons_zero, List.setIfInBounds_toArray, List.set_cons_zero, List.set_cons_succ]
          refine wpAnyH_take (i := 6) (v := .int .i64 ((k : Int))) rfl (by kernel_rfl) (by kernel_rfl) (by kernel_rfl) (fun _ _ _ h => h) (Or.inl ⟨by rfl, ?_⟩) hHeld ?_
          · intro w' hSw; go_simp <;> omega
          try simp only [Act.put, List.getElem_toArray, List.getElem_cons_succ, List.getElem_cons_zero, List.setIfInBounds_toArray, List.set_cons_zero, List.set_cons_succ]
          refine wpAnyH_take (i := 7) (v := .int .i64 ((m : Int))) rfl (by kernel_rfl) (by kernel_rfl) (by kernel_rfl) (fun _ _ _ h => h) (Or.inl ⟨by rfl, ?_⟩) hHeld ?_
          · intro w' hSw; go_simp <;> omega
          try simp only [Act.put, List.getElem_toArray, List.getElem_cons_succ, List.getElem_cons_zero, List.setIfInBounds_toArray, List.set_cons_zero, List.set_cons_succ]
          refine wpAnyH_take (i := 8) (v := .pointer (some ⟨g, m, none⟩)) rfl (by kernel_rfl) (by kernel_rfl) (by kernel_rfl) (fun _ _ _ h => h) (Or.inl ⟨by rfl, ?_⟩) hHeld ?_
          · intro w' hSw; go_simp <;> omega
          try simp only [Act.put, List.getElem_toArray, List.getElem_cons_succ, List.getElem_cons_zero, List.setIfInBounds_toArray, List.set_cons_zero, List.set_cons_succ]
          refine wpAnyH_take (i := 9) (v := .slice ya yn yc) rfl (by kernel_rfl) (by kernel_rfl) (by kernel_rfl) (fun _ _ _ h => h) (Or.inl ⟨by rfl, ?_⟩) hHeld ?_
          · intro w' hSw; have kx := (World.cell?_of_block (hSw.block g hgw)).trans gy; go_simp
          try simp only [Act.put, List.getElem_toArray, List.getElem_cons_succ, List.getElem_cons_zero, List.setIfInBounds_toArray, List.set_cons_zero, List.set_cons_succ]
          refine wpAnyH_ready (rs := [10]) (by kernel_rfl) (by simp) ?_
          refine allCall (f := 60) (args := #[.slice xa xn xc, .slice ya yn yc]) rfl (by kernel_rfl) (by kernel_rfl) ?_ AllReadyH.nil
          refine eqRows_any lo wo.heap.size lo wo.heap.size X Y _ _ _ (Sl.below (OwnV.sl Hrx.out) Row1.loc hS0 (Nat.le_refl _)) (Sl.below (OwnV.sl Hry.out) Row1.loc hS0 (Nat.le_refl _)) (Nat.le_refl _) (Nat.le_refl _) _ (fun w5 hg5 => ?_)
          refine ⟨_, rfl, hS0.trans (hg5.below.mono (Nat.le_refl _)), ?_⟩
          have HB5 := Lib.hid (hS0.trans (hg5.below.mono (Nat.le_refl _)))
          clear hg5 hHeld
          have hHeld := HB5.out
          rw [hcmp]
          try simp only [Act.put, List.getElem_toArray, List.getElem_cons_succ, List.getElem_cons_zero, List.setIfInBounds_toArray, List.set_cons_zero, List.set_cons_succ]
          refine wpAnyH_done (by kernel_rfl) ?_ _
          clear hHeld
          have Heq : Hid (cmpR X Y = 0) := Lib.hid (by simpa using hcmp)
          clear hcmp
          have Hc2 : Hid (compactL cmpR (xs.take (k + 1)) = xs.take k) := Lib.hid (by rw [Hst.out, if_pos Heq.out, Hc.out])
          have HB6 := Lib.hid (HB.out.trans (HB5.out.mono hz))
          have hrf := run_from g n c k hlt hnc hcm
          have hrt := fun k' (hk' : k' ≤ n) => run_to g n c k' hk' hnc hcm
          have Hrt := Lib.hid hrt
          obtain ⟨k0, hk0⟩ : ∃ k0, k0 = k := ⟨_, rfl⟩
          rw [← hk0] at hrf
          have Hk0 := Lib.hid hk0
          clear hrt hk0 gx gy Hrx Hry
          obtain ⟨n2, hn2⟩ : ∃ n2, n2 = n - k0 := ⟨_, rfl⟩
          obtain ⟨c2, hc2⟩ : ∃ c2, c2 = c - k0 := ⟨_, rfl⟩
          rw [← hn2, ← hc2] at hrf
          have Hn2 := Lib.hid hn2
          clear hn2 hc2
          rw [← Hk0.out]
          go_wp2_with fail
          go_loopw [5, 7] (fun t5 t7 wr => ∃ (k' k2 : Nat) (hs' : List Value) (ix : List Nat), 1 ≤ k2 ∧ k0 + k2 ≤ n ∧ k' + 1 ≤ k0 + k2 ∧ t5 = .int .i64 k' ∧ t7 = .int .i64 k2 ∧ OwnH lo wr (.slice (some ⟨g, 0, none⟩) n c) hs' ∧ (∀ j, k0 + k2 ≤ j + 1 → hs'[j]? = hs[j]?) ∧ hs'.length = n ∧ ix.length = k' ∧ hs'.take k' = ix.map (fun i => hs.getD i (.slice none 0 0)) ∧ compactL cmpR (xs.take (k0 + k2)) = ix.map (fun i => xs.getD i []) ∧ (∀ i ∈ ix, i < n) ∧ Only (fun z => z = g) w wr) (fun _ t7 _ => n - (intOf t7).toNat)
          case atStart => exact ⟨k0, 1, hs, List.range k0, Nat.le_refl _, by have := Hk0.out; omega, Nat.le_refl _, rfl, rfl, Own.kept H.out.own HB6.out, fun j _ => rfl, Hn.out.symm, by simp, take_range' _ _ _ (by have := Hk0.out; have := Hn.out; omega), by rw [Hk0.out, Hc2.out]; exact take_range' _ _ _ (by have := Hl.out; omega), fun i hi => by have := List.mem_range.1 hi; have := Hk0.out; omega, Below.only HB6.out⟩
          case round =>
            obtain ⟨k', k2, hs', ix, h1, h2, h3, rfl, rfl, ho', hsame, hlen', hixl, htk, hcx, hixn, hOn⟩ := hrel
            obtain ⟨wi, ewi⟩ : ∃ x, x = wr := ⟨_, rfl⟩
            subst ewi
            have Ho' := Lib.hid ho'
            have Hsame := Lib.hid hsame
            have Hlen' := Lib.hid hlen'
            have Hixl := Lib.hid hixl
            have Htk := Lib.hid htk
            have Hcx := Lib.hid hcx
            have Hixn := Lib.hid hixn
            have HOn := Lib.hid hOn
            have hzi := hOn.size
            clear ho' hsame hlen' hixl htk hcx hixn hOn hrf
            have kk2 : (0 : Int) ≤ (k2 : Int) := by omega
            by_cases hlt2 : k2 < n2
            · have hn2 := Hn2.out
              have hkn2 : k0 + k2 < n := by omega
              obtain ⟨m2, hm2⟩ : ∃ m2, k2 = m2 + 1 := ⟨k2 - 1, by omega⟩
              have hks : k0 + k2 < hs.length := by rw [← Hn.out]; exact hkn2
              have hms : k0 + m2 < hs.length := by rw [← Hn.out]; omega
              have hkx : k0 + k2 < xs.length := by rw [← Hl.out]; exact hkn2
              have hmx : k0 + m2 < xs.length := by rw [← Hl.out]; omega
              have wsub2 : IntKind.i64.wrap ((k2 : Int) - 1) = (m2 : Int) := by rw [show (k2 : Int) - 1 = (m2 : Int) by omega]; exact wrap_ok (by omega) (by omega)
              obtain ⟨g', c', hv', -, hgw, -, -, hcells, hfr⟩ := Own.form Ho'.out (by intro e; have := Hlen'.out; rw [e] at this; simp at this; omega)
              injection hv' with e1 e2 e3
              injection e1 with e1
              injection e1 with e1
              subst e1 e3
              clear e2
              rw [flat_vE] at hcells
              have gx := hcells (k0 + k2) _ ((Hsame.out (k0 + k2) (by omega)).trans (List.getElem?_eq_getElem hks))
              have gy := hcells (k0 + m2) _ ((Hsame.out (k0 + m2) (by omega)).trans (List.getElem?_eq_getElem hms))
              obtain ⟨u', gk⟩ : ∃ u, wi.cell? ⟨g, 0 + k', none⟩ = some u := ⟨_, hcells k' _ (List.getElem?_eq_getElem (by rw [Hlen'.out]; omega))⟩
              have fk := hfr k'
              rw [Nat.zero_add] at gx gy gk
              have Hrx := Lib.hid (Hrow.out _ HOn.out _ hks hkx)
              have Hry := Lib.hid (Hrow.out _ HOn.out _ hms hmx)
              have Hst := Lib.hid (compact_take (xs := xs) (k := k0 + k2) (by omega) hkx)
              rw [show xs[k0 + k2 - 1]'(by omega) = xs[k0 + m2] by congr 1; omega] at Hst
              obtain ⟨xa, xc, ex⟩ := Own.slice Hrx.out
              obtain ⟨ya, yc, ey⟩ := Own.slice Hry.out
              have Hxd : Hid (xs.getD (k0 + k2) [] = xs[k0 + k2]) := Lib.hid (getDS xs _ _ hkx)
              have Hhd : Hid (hs.getD (k0 + k2) (.slice none 0 0) = hs[k0 + k2]) := Lib.hid (getDS hs _ _ hks)
              obtain ⟨X, hX⟩ : ∃ X, X = xs[k0 + k2] := ⟨_, rfl⟩
              obtain ⟨Y, hY⟩ : ∃ Y, Y = xs[k0 + m2] := ⟨_, rfl⟩
              rw [← hX] at ex Hrx Hst Hxd
              rw [← hY] at ey Hry Hst
              obtain ⟨xn, hxn⟩ : ∃ xn, xn = X.length := ⟨_, rfl⟩
              obtain ⟨yn, hyn⟩ : ∃ yn, yn = Y.length := ⟨_, rfl⟩
              rw [← hxn] at ex
              rw [← hyn] at ey
              rw [ex] at gx Hrx Hhd
              rw [ey] at gy Hry
              have k2n : (k2 : Int) < (n2 : Int) := by omega
              have m2n : (m2 : Int) < (n2 : Int) := by omega
              have m20 : (0 : Int) ≤ (m2 : Int) := by omega
              have k'n : (k' : Int) < (n : Int) := by omega
              have k'0 : (0 : Int) ≤ (k' : Int) := by omega
              have Hm2 := Lib.hid hm2
              clear hcells hfr hX hY hxn hyn hm2 ex ey hn2
              go_upto_region 11 with fail
              cases hcmp : (cmpR X Y == 0)
              · have hS0 : Below wi.heap.size wi wi.drew := (Below.refl _ _).drew
                refine wp_region_held_drew (S := fun w' => Below wi.heap.size wi w') (by kernel_rfl) hS0 (fun hHeld => ?_)
                refine wpAnyH_take (i := 0) (v := .func (.func 60) #[] #[]) rfl (by kernel_rfl) (by kernel_rfl) (by kernel_rfl) (fun _ _ _ h => h) (Or.inl ⟨by rfl, ?_⟩) hHeld ?_
                · intro w' hSw; go_simp <;> omega
                try simp only [Act.put, List.getElem_toArray, List.getElem_cons_succ, List.getElem_cons_zero, List.setIfInBounds_toArray, List.set_cons_zero, List.set_cons_succ]
                refine wpAnyH_take (i := 1) (v := .slice (some ⟨g, k0, none⟩) n2 c2) rfl (by kernel_rfl) (by kernel_rfl) (by kernel_rfl) (fun _ _ _ h => h) (Or.inl ⟨by rfl, ?_⟩) hHeld ?_
                · intro w' hSw; go_simp <;> omega
                try simp only [Act.put, List.getElem_toArray, List.getElem_cons_succ, List.getElem_cons_zero, List.setIfInBounds_toArray, List.set_cons_zero, List.set_cons_succ]
                refine wpAnyH_take (i := 2) (v := .int .i64 ((k2 : Int))) rfl (by kernel_rfl) (by kernel_rfl) (by kernel_rfl) (fun _ _ _ h => h) (Or.inl ⟨by rfl, ?_⟩) hHeld ?_
                · intro w' hSw; go_simp <;> omega
                try simp only [Act.put, List.getElem_toArray, List.getElem_cons_succ, List.getElem_cons_zero, List.setIfInBounds_toArray, List.set_cons_zero, List.set_cons_succ]
                refine wpAnyH_take (i := 3) (v := .pointer (some ⟨g, k0 + k2, none⟩)) rfl (by kernel_rfl) (by kernel_rfl) (by kernel_rfl) (fun _ _ _ h => h) (Or.inl ⟨by rfl, ?_⟩) hHeld ?_
                · intro w' hSw; go_simp <;> omega
                try simp only [Act.put, List.getElem_toArray, List.getElem_cons_succ, List.getElem_cons_zero, List.setIfInBounds_toArray, List.set_cons_zero, List.set_cons_succ]
                refine wpAnyH_take (i := 4) (v := .slice xa xn xc) rfl (by kernel_rfl) (by kernel_rfl) (by kernel_rfl) (fun _ _ _ h => h) (Or.inl ⟨by rfl, ?_⟩) hHeld ?_
                · intro w' hSw; have kx := (World.cell?_of_block (hSw.block g hgw)).trans gx; go_simp
                try simp only [Act.put, List.getElem_toArray, List.getElem_cons_succ, List.getElem_cons_zero, List.setIfInBounds_toArray, List.set_cons_zero, List.set_cons_succ]
                refine wpAnyH_take (i := 5) (v := .slice (some ⟨g, k0, none⟩) n2 c2) rfl (by kernel_rfl) (by kernel_rfl) (by kernel_rfl) (fun _ _ _ h => h) (Or.inl ⟨by rfl, ?_⟩) hHeld ?_
                · intro w' hSw; go_simp <;> omega
                try simp only [Act.put, List.getElem_toArray, List.getElem_cons_succ, List.getElem_cons_zero, List.setIfInBounds_toArray, List.set_cons_zero, List.set_cons_succ]
                refine wpAnyH_take (i := 6) (v := .int .i64 ((k2 : Int))) rfl (by kernel_rfl) (by kernel_rfl) (by kernel_rfl) (fun _ _ _ h => h) (Or.inl ⟨by rfl, ?_⟩) hHeld ?_
                · intro w' hSw; go_simp <;> omega
                try simp only [Act.put, List.getElem_toArray, List.getElem_cons_succ, List.getElem_cons_zero, List.setIfInBounds_toArray, List.set_cons_zero, List.set_cons_succ]
                refine wpAnyH_take (i := 7) (v := .int .i64 ((m2 : Int))) rfl (by kernel_rfl) (by kernel_rfl) (by kernel_rfl) (fun _ _ _ h => h) (Or.inl ⟨by rfl, ?_⟩) hHeld ?_
                · intro w' hSw; go_simp <;> omega
                try simp only [Act.put, List.getElem_toArray, List.getElem_cons_succ, List.getElem_cons_zero, List.setIfInBounds_toArray, List.set_cons_zero, List.set_cons_succ]
                refine wpAnyH_take (i := 8) (v := .pointer (some ⟨g, k0 + m2, none⟩)) rfl (by kernel_rfl) (by kernel_rfl) (by kernel_rfl) (fun _ _ _ h => h) (Or.inl ⟨by rfl, ?_⟩) hHeld ?_
                · intro w' hSw; go_simp <;> omega
                try simp only [Act.put, List.getElem_toArray, List.getElem_cons_succ, List.getElem_cons_zero, List.setIfInBounds_toArray, List.set_cons_zero, List.set_cons_succ]
                refine wpAnyH_take (i := 9) (v := .slice ya yn yc) rfl (by kernel_rfl) (by kernel_rfl) (by kernel_rfl) (fun _ _ _ h => h) (Or.inl ⟨by rfl, ?_⟩) hHeld ?_
                · intro w' hSw; have kx := (World.cell?_of_block (hSw.block g hgw)).trans gy; go_simp
                try simp only [Act.put, List.getElem_toArray, List.getElem_cons_succ, List.getElem_cons_zero, List.setIfInBounds_toArray, List.set_cons_zero, List.set_cons_succ]
                refine wpAnyH_ready (rs := [10]) (by kernel_rfl) (by simp) ?_
                refine allCall (f := 60) (args := #[.slice xa xn xc, .slice ya yn yc]) rfl (by kernel_rfl) (by kernel_rfl) ?_ AllReadyH.nil
                refine eqRows_any lo wi.heap.size lo wi.heap.size X Y _ _ _ (Sl.below (OwnV.sl Hrx.out) Row1.loc hS0 (Nat.le_refl _)) (Sl.below (OwnV.sl Hry.out) Row1.loc hS0 (Nat.le_refl _)) (Nat.le_refl _) (Nat.le_refl _) _ (fun w5b hg5 => ?_)
                refine ⟨_, rfl, hS0.trans (hg5.below.mono (Nat.le_refl _)), ?_⟩
                have HB5 := Lib.hid (hS0.trans (hg5.below.mono (Nat.le_refl _)))
                clear hg5 hHeld
                have hHeld := HB5.out
                rw [hcmp]
                try simp only [Act.put, List.getElem_toArray, List.getElem_cons_succ, List.getElem_cons_zero, List.setIfInBounds_toArray, List.set_cons_zero, List.set_cons_succ]
                refine wpAnyH_take (i := 11) (v := .bool true) rfl (by kernel_rfl) (by kernel_rfl) (by kernel_rfl) (fun _ _ _ h => h) (Or.inl ⟨by rfl, ?_⟩) hHeld ?_
                · intro w' hSw; go_simp <;> omega
                try simp only [Act.put, List.getElem_toArray, List.getElem_cons_succ, List.getElem_cons_zero, List.setIfInBounds_toArray, List.set_cons_zero, List.set_cons_succ]
                refine wpAnyH_done (by kernel_rfl) ?_ _
                clear hHeld
                have Hne : Hid (cmpR X Y ≠ 0) := Lib.hid (by simpa using hcmp)
                clear hcmp
                have gx5 : w5b.cell? ⟨g, k0 + k2, none⟩ = some (.slice xa xn xc) := (World.cell?_of_block (HB5.out.block g hgw)).trans gx
                have gk5 := (World.cell?_of_block (a := ⟨g, k', none⟩) (HB5.out.block g hgw)).trans gk
                have fk5 : w5b.frozen? ⟨g, k', none⟩ = false := by have hb := HB5.out.block g hgw; simpa [World.frozen?, hb] using fk
                have HO5 := Lib.hid (Own.setAt (Own.kept Ho'.out HB5.out) (j := k') (by rw [Hlen'.out]; omega) (.slice xa xn xc))
                have HOn5 := Lib.hid ((HOn.out.trans (Below.only HB5.out)).trans (Only.setCell (A := fun z => z = g) w5b (p := ⟨g, k', none⟩) rfl (.slice xa xn xc)))
                have Hs5 : Hid (∀ j, k0 + (k2 + 1) ≤ j + 1 → (hs'.set k' (.slice xa xn xc))[j]? = hs[j]?) := Lib.hid (fun j hj => by
                  rw [List.getElem?_set_ne (by omega)]
                  exact Hsame.out j (by omega))
                have Ht5 : Hid ((hs'.set k' (.slice xa xn xc)).take (k' + 1) = (ix ++ [k0 + k2]).map (fun i => hs.getD i (.slice none 0 0))) := Lib.hid (by
                  rw [List.map_append, ← Htk.out, List.take_succ_eq_append_getElem (by rw [List.length_set, Hlen'.out]; omega), List.take_set_of_le (Nat.le_refl _), List.getElem_set_self]
                  simp only [List.map_cons, List.map_nil, Hhd.out])
                have Hc5 : Hid (compactL cmpR (xs.take (k0 + (k2 + 1))) = (ix ++ [k0 + k2]).map (fun i => xs.getD i [])) := Lib.hid (by
                  rw [← Nat.add_assoc, Hst.out, if_neg Hne.out, Hcx.out, List.map_append]
                  simp only [List.map_cons, List.map_nil, Hxd.out])
                clear gx gy gk fk Hrx Hry
                go_wp2_with fail
                go_roundw
                case rel => exact ⟨k' + 1, k2 + 1, _, ix ++ [k0 + k2], by omega, by omega, by omega, by go_num, by go_num, HO5.out, Hs5.out, by rw [List.length_set]; exact Hlen'.out, by rw [List.length_append, Hixl.out]; rfl, Ht5.out, Hc5.out, fun i hi => by
                  rcases List.mem_append.1 hi with hi | hi
                  · exact Hixn.out i hi
                  · rw [List.mem_singleton] at hi; omega, HOn5.out⟩
                case measure => simp [intOf]; omega
              · have hS0 : Below wi.heap.size wi wi.drew := (Below.refl _ _).drew
                refine wp_region_held_drew (S := fun w' => Below wi.heap.size wi w') (by kernel_rfl) hS0 (fun hHeld => ?_)
                refine wpAnyH_take (i := 0) (v := .func (.func 60) #[] #[]) rfl (by kernel_rfl) (by kernel_rfl) (by kernel_rfl) (fun _ _ _ h => h) (Or.inl ⟨by rfl, ?_⟩) hHeld ?_
                · intro w' hSw; go_simp <;> omega
                try simp only [Act.put, List.getElem_toArray, List.getElem_cons_succ, List.getElem_cons_zero, List.setIfInBounds_toArray, List.set_cons_zero, List.set_cons_succ]
                refine wpAnyH_take (i := 1) (v := .slice (some ⟨g, k0, none⟩) n2 c2) rfl (by kernel_rfl) (by kernel_rfl) (by kernel_rfl) (fun _ _ _ h => h) (Or.inl ⟨by rfl, ?_⟩) hHeld ?_
                · intro w' hSw; go_simp <;> omega
                try simp only [Act.put, List.getElem_toArray, List.getElem_cons_succ, List.getElem_cons_zero, List.setIfInBounds_toArray, List.set_cons_zero, List.set_cons_succ]
                refine wpAnyH_take (i := 2) (v := .int .i64 ((k2 : Int))) rfl (by kernel_rfl) (by kernel_rfl) (by kernel_rfl) (fun _ _ _ h => h) (Or.inl ⟨by rfl, ?_⟩) hHeld ?_
                · intro w' hSw; go_simp <;> omega
                try simp only [Act.put, List.getElem_toArray, List.getElem_cons_succ, List.getElem_cons_zero, List.setIfInBounds_toArray, List.set_cons_zero, List.set_cons_succ]
                refine wpAnyH_take (i := 3) (v := .pointer (some ⟨g, k0 + k2, none⟩)) rfl (by kernel_rfl) (by kernel_rfl) (by kernel_rfl) (fun _ _ _ h => h) (Or.inl ⟨by rfl, ?_⟩) hHeld ?_
                · intro w' hSw; go_simp <;> omega
                try simp only [Act.put, List.getElem_toArray, List.getElem_cons_succ, List.getElem_cons_zero, List.setIfInBounds_toArray, List.set_cons_zero, List.set_cons_succ]
                refine wpAnyH_take (i := 4) (v := .slice xa xn xc) rfl (by kernel_rfl) (by kernel_rfl) (by kernel_rfl) (fun _ _ _ h => h) (Or.inl ⟨by rfl, ?_⟩) hHeld ?_
                · intro w' hSw; have kx := (World.cell?_of_block (hSw.block g hgw)).trans gx; go_simp
                try simp only [Act.put, List.getElem_toArray, List.getElem_cons_succ, List.getElem_cons_zero, List.setIfInBounds_toArray, List.set_cons_zero, List.set_cons_succ]
                refine wpAnyH_take (i := 5) (v := .slice (some ⟨g, k0, none⟩) n2 c2) rfl (by kernel_rfl) (by kernel_rfl) (by kernel_rfl) (fun _ _ _ h => h) (Or.inl ⟨by rfl, ?_⟩) hHeld ?_
                · intro w' hSw; go_simp <;> omega
                try simp only [Act.put, List.getElem_toArray, List.getElem_cons_succ, List.getElem_cons_zero, List.setIfInBounds_toArray, List.set_cons_zero, List.set_cons_succ]
                refine wpAnyH_take (i := 6) (v := .int .i64 ((k2 : Int))) rfl (by kernel_rfl) (by kernel_rfl) (by kernel_rfl) (fun _ _ _ h => h) (Or.inl ⟨by rfl, ?_⟩) hHeld ?_
                · intro w' hSw; go_simp <;> omega
                try simp only [Act.put, List.getElem_toArray, List.getElem_cons_succ, List.getElem_cons_zero, List.setIfInBounds_toArray, List.set_cons_zero, List.set_cons_succ]
                refine wpAnyH_take (i := 7) (v := .int .i64 ((m2 : Int))) rfl (by kernel_rfl) (by kernel_rfl) (by kernel_rfl) (fun _ _ _ h => h) (Or.inl ⟨by rfl, ?_⟩) hHeld ?_
                · intro w' hSw; go_simp <;> omega
                try simp only [Act.put, List.getElem_toArray, List.getElem_cons_succ, List.getElem_cons_zero, List.setIfInBounds_toArray, List.set_cons_zero, List.set_cons_succ]
                refine wpAnyH_take (i := 8) (v := .pointer (some ⟨g, k0 + m2, none⟩)) rfl (by kernel_rfl) (by kernel_rfl) (by kernel_rfl) (fun _ _ _ h => h) (Or.inl ⟨by rfl, ?_⟩) hHeld ?_
                · intro w' hSw; go_simp <;> omega
                try simp only [Act.put, List.getElem_toArray, List.getElem_cons_succ, List.getElem_cons_zero, List.setIfInBounds_toArray, List.set_cons_zero, List.set_cons_succ]
                refine wpAnyH_take (i := 9) (v := .slice ya yn yc) rfl (by kernel_rfl) (by kernel_rfl) (by kernel_rfl) (fun _ _ _ h => h) (Or.inl ⟨by rfl, ?_⟩) hHeld ?_
                · intro w' hSw; have kx := (World.cell?_of_block (hSw.block g hgw)).trans gy; go_simp
                try simp only [Act.put, List.getElem_toArray, List.getElem_cons_succ, List.getElem_cons_zero, List.setIfInBounds_toArray, List.set_cons_zero, List.set_cons_succ]
                refine wpAnyH_ready (rs := [10]) (by kernel_rfl) (by simp) ?_
                refine allCall (f := 60) (args := #[.slice xa xn xc, .slice ya yn yc]) rfl (by kernel_rfl) (by kernel_rfl) ?_ AllReadyH.nil
                refine eqRows_any lo wi.heap.size lo wi.heap.size X Y _ _ _ (Sl.below (OwnV.sl Hrx.out) Row1.loc hS0 (Nat.le_refl _)) (Sl.below (OwnV.sl Hry.out) Row1.loc hS0 (Nat.le_refl _)) (Nat.le_refl _) (Nat.le_refl _) _ (fun w5b hg5 => ?_)
                refine ⟨_, rfl, hS0.trans (hg5.below.mono (Nat.le_refl _)), ?_⟩
                have HB5 := Lib.hid (hS0.trans (hg5.below.mono (Nat.le_refl _)))
                clear hg5 hHeld
                have hHeld := HB5.out
                rw [hcmp]
                try simp only [Act.put, List.getElem_toArray, List.getElem_cons_succ, List.getElem_cons_zero, List.setIfInBounds_toArray, List.set_cons_zero, List.set_cons_succ]
                refine wpAnyH_take (i := 11) (v := .bool false) rfl (by kernel_rfl) (by kernel_rfl) (by kernel_rfl) (fun _ _ _ h => h) (Or.inl ⟨by rfl, ?_⟩) hHeld ?_
                · intro w' hSw; go_simp <;> omega
                try simp only [Act.put, List.getElem_toArray, List.getElem_cons_succ, List.getElem_cons_zero, List.setIfInBounds_toArray, List.set_cons_zero, List.set_cons_succ]
                refine wpAnyH_done (by kernel_rfl) ?_ _
                clear hHeld
                have Heq : Hid (cmpR X Y = 0) := Lib.hid (by simpa using hcmp)
                clear hcmp gx gy gk fk Hrx Hry
                go_wp2_with fail
                go_roundw
                case rel => exact ⟨k', k2 + 1, hs', ix, by omega, by omega, by omega, rfl, by go_num, Own.kept Ho'.out HB5.out, fun j hj => Hsame.out j (by omega), Hlen'.out, Hixl.out, Htk.out, by rw [← Nat.add_assoc, Hst.out, if_pos Heq.out]; exact Hcx.out, Hixn.out, HOn.out.trans (Below.only HB5.out)⟩
                case measure => simp [intOf]; omega
            · have hn2 := Hn2.out
              have hall : k0 + k2 = n := by have := Hk0.out; omega
              have hk'n : k' < n := by omega
              obtain ⟨g', c', hv', -, hgw, -, -, hcells, hfr⟩ := Own.form Ho'.out (by intro e; have := Hlen'.out; rw [e] at this; simp at this; omega)
              injection hv' with e1 e2 e3
              injection e1 with e1
              injection e1 with e1
              subst e1 e3
              clear e2
              rw [flat_vE] at hcells
              have hcl := fun ty => Lib.run_clear_slice (P := Tryz.prog) wi 23 36 ty (.slice none 0 0) Tryz.underlying23 (fun w => by kernel_rfl) rfl rfl g k' (n - k') (c - k') (by omega)
                (fun j hj => by
                  have := hcells (k' + j) _ (List.getElem?_eq_getElem (by rw [Hlen'.out]; omega))
                  rw [Nat.zero_add] at this
                  rw [this]; rfl) (fun j hj => hfr _)
              have hrf := run_from g n c k' hk'n hnc hcm
              have hrt := Hrt.out k' (by omega)
              have hcx := Hcx.out
              rw [hall, List.take_of_length_le (by rw [← Hl.out]; exact Nat.le_refl _)] at hcx
              have hOnF := HOn.out.trans (only_setCells g (List.replicate (n - k') (.slice none 0 0)) wi k')
              have hcut := Own.cut Ho'.out (k := k') (by rw [Hlen'.out]; omega)
              have hown := Own.setOut (List.replicate (n - k') (.slice none 0 0)) wi k' hcut (by rw [List.length_take]; omega)
              have hlk : (hs'.take k').length = k' := by rw [List.length_take, Hlen'.out]; omega
              have hr := HR.out (wi.setCells g k' (List.replicate (n - k') (.slice none 0 0))) (.slice (some ⟨g, 0, none⟩) k' c) (hs'.take k') (hOnF.mono (fun z _ hz => by rw [hz]; rfl)) (by
                refine ⟨hown, by rw [hlk, hcx, List.length_map, Hixl.out], fun i hi hi2 => ?_, fun i hi q hq => ?_⟩
                · have hii : i < ix.length := by rw [hlk] at hi; rw [Hixl.out]; exact hi
                  have hin := Hixn.out _ (List.getElem_mem hii)
                  have e1 : (hs'.take k')[i] = hs[ix[i]]'(by rw [← Hn.out]; exact hin) := by
                    simp only [Htk.out, List.getElem_map]
                    exact getDS hs _ _ (by rw [← Hn.out]; exact hin)
                  have e2 : (compactL cmpR xs)[i] = xs[ix[i]]'(by rw [← Hl.out]; exact hin) := by
                    simp only [hcx, List.getElem_map]
                    exact getDS xs _ _ (by rw [← Hl.out]; exact hin)
                  rw [e1, e2]
                  exact Hrow.out _ hOnF _ _ _
                · have hii : i < ix.length := by rw [hlk] at hi; rw [Hixl.out]; exact hi
                  have hin := Hixn.out _ (List.getElem_mem hii)
                  have e1 : (hs'.take k')[i] = hs[ix[i]]'(by rw [← Hn.out]; exact hin) := by
                    simp only [Htk.out, List.getElem_map]
                    exact getDS hs _ _ (by rw [← Hn.out]; exact hin)
                  rw [e1] at hq
                  have := Hap.out _ _ q hq
                  intro e
                  exact this (by simpa [Value.ownBlock, eq_comm] using e))
              have k2n : ¬ (k2 : Int) < (n2 : Int) := by omega
              clear hcells hfr hOnF hcut hown hcx hlk
              go_wp2_with fail
              first | exact hr | exact fin hr rfl
      · obtain rfl : k = n := by omega
        have hcx := Hc.out
        rw [List.take_of_length_le (by rw [← Hl.out]; exact Nat.le_refl _)] at hcx
        have hr := HR.out wo _ hs (Below.only HB.out) (by rw [hcx]; exact H.out.kept HB.out)
        clear hcx
        have nn : ¬ ((k : Nat) : Int) < (k : Int) := by omega
        go_wp2_with fail
        first | exact hr | exact fin hr rfl
end Go.Proofs.YtmconajkgjfplaaGreat
end

/- Values of a call's own, sorted by the library. (Printed by flds.py.) -/
section
set_option linter.unusedVariables false
set_option linter.unusedSimpArgs false
namespace Go.Proofs.YtmconajkgjfplaaGreat
open Go.RowKit Go.Sort Go.Shelf
set_option linter.unusedVariables false
set_option linter.unusedSimpArgs false
theorem cmpV_swo : SWO (ltOf cmpV) where
  irrefl p := by
    unfold ltOf
    rw [cmpV_cmp.self]
    simp
  trans p q r h1 h2 := by
    unfold ltOf at *
    simp only [decide_eq_true_eq] at *
    exact cmpV_cmp.trans _ _ _ h1 h2
  ntrans p q r h1 h2 := by
    unfold ltOf at *
    simp only [decide_eq_false_iff_not] at *
    intro h3
    have a1 := cmpV_cmp.three p q
    have a2 := cmpV_cmp.three q r
    by_cases e1 : cmpV p q = 0
    · rw [(cmpV_cmp.zero _ _).1 e1] at h3; omega
    · by_cases e2 : cmpV q r = 0
      · rw [← (cmpV_cmp.zero _ _).1 e2] at h3; omega
      · have b1 := cmpV_cmp.anti p q
        have b2 := cmpV_cmp.anti q r
        have := cmpV_cmp.trans r q p (by omega) (by omega)
        have b3 := cmpV_cmp.anti p r
        omega
theorem flatMap_len {α : Type} {enc : α → List Value} {size : Nat} (henc : ∀ x, (enc x).length = size) : ∀ (l : List α), (l.flatMap enc).length = l.length * size := by
  intro l; induction l with
  | nil => simp
  | cons x r ih => simp [henc, ih, Nat.add_mul, Nat.add_comm]
theorem flatMap_at {α : Type} {enc : α → List Value} {size : Nat} (henc : ∀ x, (enc x).length = size) (xs : List α) {k j : Nat} (hk : k < xs.length) (hj : j < size) : (xs.flatMap enc)[k * size + j]? = (enc xs[k])[j]? := by
  have hlen := flatMap_len henc
  have hx : xs = xs.take k ++ xs[k] :: xs.drop (k + 1) := by rw [← List.drop_eq_getElem_cons hk, List.take_append_drop]
  have hf : xs.flatMap enc = (xs.take k).flatMap enc ++ (enc xs[k] ++ (xs.drop (k + 1)).flatMap enc) := by
    exact (congrArg (List.flatMap enc) hx).trans (by rw [List.flatMap_append, List.flatMap_cons])
  rw [hf, List.getElem?_append_right (by rw [hlen, List.length_take]; rw [Nat.min_eq_left (by omega)]; omega), hlen, List.length_take, Nat.min_eq_left (by omega), show k * size + j - k * size = j by omega, List.getElem?_append_left (by rw [henc]; exact hj)]
theorem flatK_list (d : Array V) : (flatK V.enc 3 d).toList = d.toList.flatMap V.enc := by
  have hlen : (d.toList.flatMap V.enc).length = d.size * 3 := (flatMap_len (enc := V.enc) (size := 3) (fun _ => rfl) d.toList).trans (by rw [Array.length_toList])
  apply List.ext_getElem (by rw [Array.length_toList, size_flatK, hlen])
  intro t h1 h2
  have ht : t < d.size * 3 := by rw [hlen] at h2; exact h2
  have hk : t / 3 < d.toList.length := by rw [Array.length_toList]; omega
  have e := flatMap_at (enc := V.enc) (size := 3) (fun _ => rfl) d.toList hk (j := t % 3) (by omega)
  rw [show t / 3 * 3 + t % 3 = t by omega, List.getElem?_eq_getElem h2, List.getElem?_eq_getElem (show t % 3 < (V.enc d.toList[t / 3]).length by show t % 3 < 3; omega)] at e
  injection e with e
  rw [e, Array.getElem_toList]
  have e2 := get_flatK V.enc 3 d t ht
  rw [getElem!_pos _ t (by rw [size_flatK]; exact ht), getElem!_pos d (t / 3) (by omega), getElem!_pos (V.enc d[t / 3]) (t % 3) (by show t % 3 < 3; omega)] at e2
  rw [e2]
  rfl
theorem compareV_sort {g n : Nat} {w : World} : CmpLays Tryz.prog 14 #[] V.enc 3 cmpV g 0 n w := by
  intro m os dk hs x y
  have h := CompareG_any x y (sortWorldK V.enc 3 w g 0 m dk os)
    (fun e w' => e = .returned (.int .i64 (cmpV x y)) ∧ ∃ q os', w' = grow ((sortWorldK V.enc 3 w g 0 m dk os).drewN q) os') (fun w' hg => ⟨rfl, hg⟩)
  simpa [V.enc] using h
set_option maxRecDepth 100000 in
set_option maxHeartbeats 2000000 in
/-- slices.SortFunc of values of a call's own. -/
theorem sortVals_any (lo : Nat) (v : Value) (xs : List V) (w : World) (h : OwnV lo w v xs) (hlen : xs.length ≤ 1000000000000) (R : Ending → World → Prop)
    (hR : ∀ w' xs', Only (fun z => v.ownBlock = some z) w w' → OwnV lo w' v xs' → xs'.Perm xs → xs'.Pairwise (fun a b => ¬ cmpV b a < 0) → R (.returned (.tuple #[])) w') :
    Calls Tryz.prog 86 #[v, .func (.func 14) #[] #[]] w R := by
  by_cases hx : xs = []
  · subst hx
    obtain ⟨p, cap, hv⟩ := Own.slice h
    have hv' : v = .slice p 0 cap := hv
    have hr := hR w [] (Only.refl _ _) h (List.Perm.refl _) List.Pairwise.nil
    subst hv'
    have hc := AnyF.slices_SortFunc_none (P := Tryz.prog) { sortVals with } p cap (.func (.func 14) #[] #[]) w
    exact hc.mono (fun e w' ⟨he, hw⟩ => by rw [he, hw]; exact hr)
  · rcases h.2 with ⟨-, hn⟩ | ⟨g, cap, cur, hv, hb, hg, hnc, hcm, hcs, htake⟩
    · exact absurd (List.eq_nil_of_length_eq_zero hn) hx
    have hgl : g < w.heap.size := (Array.getElem?_eq_some_iff.1 hg).1
    obtain ⟨d, hd⟩ : ∃ d : Array V, d = xs.toArray := ⟨_, rfl⟩
    have hds : d.size = xs.length := by rw [hd]; simp
    have hdl : d.toList = xs := by rw [hd]
    have hfl := flatMap_len (enc := V.enc) (size := 3) (fun _ => rfl) xs
    have hH : HoldsK V.enc 3 w g 0 d := by
      intro j hj
      rw [size_flatK] at hj
      refine ⟨?_, by simp [World.frozen?, hg]⟩
      have h1 : (cur.toList.take (xs.length * 3))[j]? = (flatK V.enc 3 d).toList[j]? := by rw [htake, flatK_list, hdl]
      rw [List.getElem?_take_of_lt (by rw [← hds]; exact hj)] at h1
      simp only [World.cell?, hg, Nat.zero_add]
      simp only [Option.isSome_none, Bool.false_eq_true, if_false]
      rw [← Array.getElem?_toList, h1, Array.getElem?_toList, Array.getElem?_eq_getElem (by rw [size_flatK]; exact hj), getElem!_pos _ j (by rw [size_flatK]; exact hj)]
      rfl
    have hc := AnyQ.slices_SortFunc (P := Tryz.prog) sortVals 3 (fun _ => by kernel_rfl) (fun _ => by kernel_rfl) V.enc (fun _ => rfl) one3 cmpV cmpV_swo 14 #[] g 0 cap d w (enters_of Tryz.func14 (by kernel_rfl) rfl) compareV_sort hH hgl (by omega)
    rw [hds] at hc
    rw [hv]
    refine Calls.mono hc (fun e w' ⟨he, d', n, os, hp, hso, hw⟩ => ?_)
    subst he
    have hd's : d'.size = xs.length := by rw [hp.1, hds]
    have hperm : d'.toList.Perm d.toList := by
      have := hp.2.2
      rwa [Array.extract_eq_self_of_le (by omega), Array.extract_eq_self_of_le (by omega)] at this
    have hw2 : w' = sortWorld id w g 0 n (flatK V.enc 3 d') os := hw
    have hgl' := size_sort (enc := id) (w := w) (g := g) (n := n) (os := os) (flatK V.enc 3 d')
    refine hR w' d'.toList (by rw [hw2, hv]; exact ⟨rfl, rfl, rfl, hgl', fun k hk hn => heap_sortOther (flatK V.enc 3 d') hk (fun e => hn (by rw [e]; rfl))⟩) ?_ (by rw [← hdl]; exact hperm) ?_
    · have hl' : d'.toList.length = xs.length := by simp [hd's]
      refine ⟨by rw [flatMap_len (enc := V.enc) (size := 3) (fun _ => rfl)], .inr ⟨g, cap, _, by rw [hl', hv], hb, by rw [hw2]; exact heap_sortRow (flatK V.enc 3 d') hg, by rw [hl']; exact hnc, hcm, by simp [putCells, hcs], ?_⟩⟩
      have := take_putCells' id cur (flatK V.enc 3 d') (by rw [size_flatK, hd's]; rw [hcs]; exact Nat.mul_le_mul_right 3 hnc)
      rw [size_flatK, flatK_list, List.map_id] at this
      rw [Array.length_toList]
      exact this
    · rw [List.pairwise_iff_getElem]
      intro i j hi hj hij
      have := hso i j (Nat.zero_le _) hij (by have : j < d'.toList.length := hj; rw [Array.length_toList] at this; omega)
      rw [getElem!_pos d' i (by simpa using hi), getElem!_pos d' j (by simpa using hj)] at this
      unfold ltOf at this
      simpa using this
theorem compactV_take {xs : List V} {k : Nat} (h1 : 1 ≤ k) (h2 : k < xs.length) : compactL cmpV (xs.take (k + 1)) = if cmpV xs[k] xs[k - 1] = 0 then compactL cmpV (xs.take k) else compactL cmpV (xs.take k) ++ [xs[k]] := by
  have e1 : xs.take k = xs.take (k - 1) ++ [xs[k - 1]] := by
    rw [← List.take_succ_eq_append_getElem (by omega), Nat.sub_add_cancel h1]
  rw [List.take_succ_eq_append_getElem h2, e1, compactL_snoc cmpV_cmp]
end Go.Proofs.YtmconajkgjfplaaGreat
end

/- slices.Compact of values of a call's own. (Printed by fldu.py.) -/
section
set_option linter.unusedVariables false
set_option linter.unusedSimpArgs false
namespace Go.Proofs.YtmconajkgjfplaaGreat
open Go.RowKit
set_option linter.unusedVariables false
set_option linter.unusedSimpArgs false
abbrev V.agg (x : V) : Value := .agg #[.int .i64 x.kind, .int .i64 x.n, .string ⟨x.s.toArray⟩]
theorem V.ext' {x y : V} (h1 : x.kind = y.kind) (h2 : x.n = y.n) (h3 : x.s = y.s) : x = y := by
  cases x; cases y; simp_all
theorem V.differ {x y : V} (h : x ≠ y) : (¬ x.kind = y.kind) ∨ (x.kind = y.kind ∧ ¬ x.n = y.n) ∨ (x.kind = y.kind ∧ x.n = y.n ∧ ¬ x.s = y.s) := by
  by_cases h1 : x.kind = y.kind
  · by_cases h2 : x.n = y.n
    · exact .inr (.inr ⟨h1, h2, fun h3 => h (V.ext' h1 h2 h3)⟩)
    · exact .inr (.inl ⟨h1, h2⟩)
  · exact .inl h1
theorem run_eql_same {x : V} (w : World) : (binOp .eql 44 x.agg x.agg).run Tryz.prog w = .ok (.bool true) w := by go_simp
theorem run_eql_not {x y : V} (h : x ≠ y) (w : World) : (binOp .eql 44 x.agg y.agg).run Tryz.prog w = .ok (.bool false) w := by
  by_cases h1 : x.kind = y.kind
  · by_cases h2 : x.n = y.n
    · have h3 : ¬ x.s = y.s := fun h3 => h (V.ext' h1 h2 h3)
      go_simp
    · go_simp
  · go_simp
theorem flat_set3 (u : V) : ∀ (xs : List V) (j : Nat), j < xs.length → (((xs.flatMap V.enc).set (j * 3) (.int .i64 u.kind)).set (j * 3 + 1) (.int .i64 u.n)).set (j * 3 + 2) (.string ⟨u.s.toArray⟩) = (xs.set j u).flatMap V.enc
  | [], j, h => absurd h (Nat.not_lt_zero _)
  | x :: r, 0, _ => by simp [V.enc]
  | x :: r, j + 1, h => by
    have ih := flat_set3 u r j (by simpa using h)
    simp only [List.flatMap_cons, List.set_cons_succ, V.enc, List.cons_append, List.nil_append, show (j + 1) * 3 = j * 3 + 3 by omega, show j * 3 + 3 + 1 = j * 3 + 1 + 3 by omega, show j * 3 + 3 + 2 = j * 3 + 2 + 3 by omega]
    rw [ih]
theorem enc3 (x : V) : (V.enc x).length = 3 := rfl
/-- One value is written. -/
theorem OwnV.setAt {lo g n c j : Nat} {w : World} {xs : List V} (h : OwnV lo w (.slice (some ⟨g, 0, none⟩) n c) xs) (hj : j < xs.length) (u : V) :
    OwnV lo (((w.setCell ⟨g, j * 3, none⟩ (.int .i64 u.kind)).setCell ⟨g, j * 3 + 1, none⟩ (.int .i64 u.n)).setCell ⟨g, j * 3 + 2, none⟩ (.string ⟨u.s.toArray⟩)) (.slice (some ⟨g, 0, none⟩) n c) (xs.set j u) := by
  obtain ⟨h1, h2⟩ := h
  rcases h2 with ⟨ee, hn⟩ | ⟨g', cap, cur, ee, hb, hg, hnc, hcm, hcs, htake⟩
  · cases ee
  · injection ee with e1 e2 e3
    injection e1 with e1
    injection e1 with e1
    subst e1 e2 e3
    have hB : Blk w g cur.toList 44 := by unfold Blk; simpa using hg
    have hB2 := ((hB.set (j * 3) (.int .i64 u.kind)).set (j * 3 + 1) (.int .i64 u.n)).set (j * 3 + 2) (.string ⟨u.s.toArray⟩)
    refine ⟨by rw [flatMap_len enc3], .inr ⟨g, c, (((cur.toList.set (j * 3) (.int .i64 u.kind)).set (j * 3 + 1) (.int .i64 u.n)).set (j * 3 + 2) (.string ⟨u.s.toArray⟩)).toArray, by simp, hb, hB2, by simpa using hnc, hcm, by simpa using hcs, ?_⟩⟩
    rw [List.length_set, List.toList_toArray, List.take_set, List.take_set, List.take_set, htake]
    exact flat_set3 u xs j hj
theorem OwnV.setOut {lo g n c : Nat} {xs : List V} (us : List Value) : ∀ (w : World) (j : Nat), OwnV lo w (.slice (some ⟨g, 0, none⟩) n c) xs → xs.length * 3 ≤ j → OwnV lo (w.setCells g j us) (.slice (some ⟨g, 0, none⟩) n c) xs := by
  induction us with
  | nil => intro w j h _; exact h
  | cons u r ih =>
    intro w j h hj
    refine ih _ (j + 1) ?_ (by omega)
    obtain ⟨h1, h2⟩ := h
    rcases h2 with ⟨ee, hn⟩ | ⟨g', cap, cur, ee, hb, hg, hnc, hcm, hcs, htake⟩
    · cases ee
    · injection ee with e1 e2 e3
      injection e1 with e1
      injection e1 with e1
      subst e1 e2 e3
      have hB : Blk w g cur.toList 44 := by unfold Blk; simpa using hg
      have hB2 := hB.set j u
      refine ⟨h1, .inr ⟨g, c, (cur.toList.set j u).toArray, rfl, hb, hB2, hnc, hcm, by simpa using hcs, ?_⟩⟩
      rw [List.toList_toArray, List.take_set_of_le (by omega), htake]
theorem OwnV.cut {lo g n c k : Nat} {w : World} {xs : List V} (h : OwnV lo w (.slice (some ⟨g, 0, none⟩) n c) xs) (hk : k ≤ xs.length) : OwnV lo w (.slice (some ⟨g, 0, none⟩) k c) (xs.take k) := by
  obtain ⟨h1, h2⟩ := h
  have hl : (xs.take k).length = k := by rw [List.length_take]; omega
  rcases h2 with ⟨ee, hn⟩ | ⟨g', cap, cur, ee, hb, hg, hnc, hcm, hcs, htake⟩
  · cases ee
  · injection ee with e1 e2 e3
    injection e1 with e1
    injection e1 with e1
    subst e1 e2 e3
    refine ⟨by rw [flatMap_len enc3], .inr ⟨g, c, cur, by rw [hl], hb, hg, by omega, hcm, hcs, ?_⟩⟩
    rw [hl]
    have e : (xs.flatMap V.enc).take (k * 3) = (xs.take k).flatMap V.enc := by
      have hx : xs = xs.take k ++ xs.drop k := (List.take_append_drop k xs).symm
      have hf : xs.flatMap V.enc = (xs.take k).flatMap V.enc ++ (xs.drop k).flatMap V.enc := (congrArg (List.flatMap V.enc) hx).trans (by rw [List.flatMap_append])
      rw [hf, List.take_append_of_le_length (by rw [flatMap_len enc3, hl]; exact Nat.le_refl _), List.take_of_length_le (by rw [flatMap_len enc3, hl]; exact Nat.le_refl _)]
    rw [← e, ← htake, List.take_take, Nat.min_eq_left (Nat.mul_le_mul_right 3 hk)]
theorem run_clearV (w : World) (ty : TypeId) (b o n c : Nat) (hn : 0 < n) (hc : ∀ j, j < n * 3 → (w.cell? ⟨b, o + j, none⟩).isSome = true) (hf : ∀ j, w.frozen? ⟨b, o + j, none⟩ = false) :
    ∃ us : List Value, (Builtin.clear_ #[35] ty #[.slice (some ⟨b, o, none⟩) n c]).run Tryz.prog w = .ok (.tuple #[]) (w.setCells b o us) := by
  obtain ⟨z, hz⟩ : ∃ z : Value, z = .agg #[.int .i64 0, .int .i64 0, .string ⟨#[]⟩] := ⟨_, rfl⟩
  have hv : ∀ w, (zeroValue 44).run Tryz.prog w = .ok z w := fun w => by rw [hz]; kernel_rfl
  have hst := run_storeCells_cells (P := Tryz.prog) b o (Builtin.zeroCells z.cells n).toList 0 w (by
    rw [hz]
    simpa [Builtin.zeroCells, Value.cells] using hc) (fun j _ => by rw [Nat.add_zero]; exact hf j) (by
    rw [hz]
    intro v hv'
    simp only [Builtin.zeroCells, Value.cells, Array.toList_map, List.mem_map] at hv'
    obtain ⟨i, -, rfl⟩ := hv'
    have h3 : i % 3 < 3 := Nat.mod_lt _ (by omega)
    have e3 : (#[Value.int .i64 0, .int .i64 0, .string ⟨#[]⟩] : Array Value).size = 3 := rfl
    rw [e3]
    rcases (show i % 3 = 0 ∨ i % 3 = 1 ∨ i % 3 = 2 by omega) with h | h | h <;> rw [h] <;> rfl)
  simp only [Nat.add_zero] at hst
  obtain ⟨m, rfl⟩ : ∃ m, n = m + 1 := ⟨n - 1, by omega⟩
  refine ⟨(Builtin.zeroCells z.cells (m + 1)).toList, ?_⟩
  simp [Builtin.clear_, run_underlying Tryz.underlying35, hv, hst]
set_option maxRecDepth 100000 in
theorem run_fromV (g n c k : Nat) (hk : k < n) (hn : n ≤ c) (hc : c ≤ 9223372036854775807) (w' : World) : (Instr.slice 35 (.slice (some ⟨g, 0, none⟩) n c) (some (.int .i64 (k : Int))) none none).run Tryz.prog w' = .ok (.slice (some ⟨g, k * 3, none⟩) (n - k) (c - k)) w' := by
  rw [run_slice_l w' 35 _ n c Tryz.underlying35 .i64 (k : Int) (by omega) (by omega)]
  have hsz : ∀ w, (sizeOf (Tryz.prog.elem 35)).run Tryz.prog w = .ok 3 w := fun w => by kernel_rfl
  simp only [hsz, Result.andThen, Int.toNat_natCast, sliced]
  rw [if_neg (by omega)]
  simp [Addr.add] <;> omega
set_option maxRecDepth 100000 in
theorem run_toV (g n c k : Nat) (hk : k ≤ n) (hn : n ≤ c) (hc : c ≤ 9223372036854775807) (w' : World) : (Instr.slice 35 (.slice (some ⟨g, 0, none⟩) n c) none (some (.int .i64 (k : Int))) none).run Tryz.prog w' = .ok (.slice (some ⟨g, 0, none⟩) k c) w' := by
  rw [run_slice_h w' 35 _ n c Tryz.underlying35 .i64 (k : Int) (by omega) (by omega)]
  have hsz : ∀ w, (sizeOf (Tryz.prog.elem 35)).run Tryz.prog w = .ok 3 w := fun w => by kernel_rfl
  simp only [hsz, Result.andThen, Int.toNat_natCast, sliced]
  split <;> simp [Addr.add]
/-- The three cells of one value. -/
theorem OwnV.at {lo g n c k : Nat} {w : World} {xs : List V} (h : OwnV lo w (.slice (some ⟨g, 0, none⟩) n c) xs) (hk : k < xs.length) :
    w.cell? ⟨g, k * 3, none⟩ = some (.int .i64 xs[k].kind) ∧ w.cell? ⟨g, k * 3 + 1, none⟩ = some (.int .i64 xs[k].n) ∧ w.cell? ⟨g, k * 3 + 2, none⟩ = some (.string ⟨xs[k].s.toArray⟩) := by
  obtain ⟨g', c', hv', -, -, -, -, hcells, hfr⟩ := Own.form h (by intro e; rw [e] at hk; simp at hk)
  injection hv' with e1 e2 e3
  injection e1 with e1
  injection e1 with e1
  subst e1
  have f := fun j (hj : j < 3) => (flatMap_at enc3 xs hk hj).trans (List.getElem?_eq_getElem (show j < (V.enc xs[k]).length from hj))
  have a0 := hcells _ _ (f 0 (by omega))
  have a1 := hcells _ _ (f 1 (by omega))
  have a2 := hcells _ _ (f 2 (by omega))
  rw [Nat.zero_add] at a0 a1 a2
  exact ⟨a0, a1, a2⟩
set_option maxRecDepth 100000 in
set_option maxHeartbeats 8000000 in
theorem compactV_any (lo : Nat) (v : Value) (xs : List V) (w : World) (h : OwnV lo w v xs) (hlen : xs.length ≤ 1000000000000) (R : Ending → World → Prop)
    (hR : ∀ w' v', Only (fun z => v.ownBlock = some z) w w' → OwnV lo w' v' (compactL cmpV xs) → R (.returned v') w') :
    Calls Tryz.prog 87 #[v] w R := by
  have HR := Lib.hid hR
  clear hR
  by_cases hsm : xs.length < 2
  · have hc : compactL cmpV xs = xs := by
      match xs with
      | [] => rfl
      | [x] => rfl
      | _ :: _ :: _ => simp only [List.length_cons] at hsm; omega
    have hr := HR.out w v (Only.refl _ _) (by rw [hc]; exact h)
    obtain ⟨p, c, rfl⟩ := Own.slice h
    have hi : (xs.length : Int) < 2 := by omega
    go_enter Tryz.func87, Tryz.ntmps87
    go_wp2_with fail
    first | exact hr | exact fin hr rfl
  · obtain ⟨g, c, hv, hb, hgl, hnc, hcm, -, -⟩ := Own.form h (by intro e; rw [e] at hsm; simp at hsm)
    subst hv
    obtain ⟨n, hn⟩ : ∃ n, n = xs.length := ⟨_, rfl⟩
    rw [← hn] at h hsm hnc hlen ⊢
    have Hn := Lib.hid hn
    have H := Lib.hid h
    have n2 : ¬ (n : Int) < 2 := by omega
    clear hn h
    go_enter Tryz.func87, Tryz.ntmps87
    go_wp2_with fail
    go_loopw [3] (fun t3 wr => ∃ k : Nat, 1 ≤ k ∧ k ≤ n ∧ t3 = .int .i64 k ∧ Below w.heap.size w wr ∧ compactL cmpV (xs.take k) = xs.take k) (fun t3 _ => n - (intOf t3).toNat)
    case atStart => exact ⟨1, Nat.le_refl _, by omega, rfl, Below.refl _ _, by
      cases xs with
      | nil => rfl
      | cons a r => rfl⟩
    case round =>
      obtain ⟨k, hk1, hkn, rfl, hB, hc⟩ := hrel
      obtain ⟨wo, ewo⟩ : ∃ x, x = wr := ⟨_, rfl⟩
      subst ewo
      have HB := Lib.hid hB
      have Hc := Lib.hid hc
      have hz := hB.size
      clear hB hc
      have kk0 : (0 : Int) ≤ (k : Int) := by omega
      by_cases hlt : k < n
      · obtain ⟨m, hm⟩ : ∃ m, k = m + 1 := ⟨k - 1, by omega⟩
        have hkx : k < xs.length := by rw [← Hn.out]; exact hlt
        have hmx : m < xs.length := by rw [← Hn.out]; omega
        have wsub : IntKind.i64.wrap ((k : Int) - 1) = (m : Int) := by rw [show (k : Int) - 1 = (m : Int) by omega]; exact wrap_ok (by omega) (by omega)
        have hO : OwnV lo wo (.slice (some ⟨g, 0, none⟩) n c) xs := Own.kept H.out HB.out
        have gx := hO.at hkx
        have gy := hO.at hmx
        have Hst := Lib.hid (compactV_take (xs := xs) hk1 hkx)
        have Htk := Lib.hid (List.take_succ_eq_append_getElem hkx)
        rw [show xs[k - 1]'(by omega) = xs[m] by congr 1; omega] at Hst
        obtain ⟨X, hX⟩ : ∃ X, X = xs[k] := ⟨_, rfl⟩
        obtain ⟨Y, hY⟩ : ∃ Y, Y = xs[m] := ⟨_, rfl⟩
        rw [← hX] at gx Hst Htk
        rw [← hY] at gy Hst
        have hgw : g < wo.heap.size := by omega
        have kn : (k : Int) < (n : Int) := by omega
        have mn : (m : Int) < (n : Int) := by omega
        have m0 : (0 : Int) ≤ (m : Int) := by omega
        clear hO hX hY hm
        by_cases hXY : X = Y
        · subst hXY
          have Heq : Hid (cmpV X X = 0) := Lib.hid (cmpV_cmp.self X)
          go_upto_region 6 with fail
          refine wp_region_held_drew (S := fun w' => w' = wo.drew) (by kernel_rfl) rfl (fun hHeld => ?_)
          refine wpAnyH_take (i := 0) (v := .slice (some ⟨g, 0, none⟩) n c) rfl (by kernel_rfl) (by kernel_rfl) (by kernel_rfl) (fun _ _ _ h => h) (Or.inl ⟨by rfl, ?_⟩) hHeld ?_
          · intro w' hSw; subst hSw; go_simp <;> omega
          try simp only [Act.put, List.getElem_toArray, List.getElem_cons_succ, List.getElem_cons_zero, List.setIfInBounds_toArray, List.set_cons_zero, List.set_cons_succ]
          refine wpAnyH_take (i := 1) (v := .int .i64 ((k : Int))) rfl (by kernel_rfl) (by kernel_rfl) (by kernel_rfl) (fun _ _ _ h => h) (Or.inl ⟨by rfl, ?_⟩) hHeld ?_
          · intro w' hSw; subst hSw; go_simp <;> omega
          try simp only [Act.put, List.getElem_toArray, List.getElem_cons_succ, List.getElem_cons_zero, List.setIfInBounds_toArray, List.set_cons_zero, List.set_cons_succ]
          refine wpAnyH_take (i := 2) (v := .pointer (some ⟨g, k * 3, none⟩)) rfl (by kernel_rfl) (by kernel_rfl) (by kernel_rfl) (fun _ _ _ h => h) (Or.inl ⟨by rfl, ?_⟩) hHeld ?_
          · intro w' hSw; subst hSw; go_simp <;> omega
          try simp only [Act.put, List.getElem_toArray, List.getElem_cons_succ, List.getElem_cons_zero, List.setIfInBounds_toArray, List.set_cons_zero, List.set_cons_succ]
          refine wpAnyH_take (i := 3) (v := .agg #[.int .i64 X.kind, .int .i64 X.n, .string ⟨X.s.toArray⟩]) rfl (by kernel_rfl) (by kernel_rfl) (by kernel_rfl) (fun _ _ _ h => h) (Or.inl ⟨by rfl, ?_⟩) hHeld ?_
          · intro w' hSw; subst hSw; obtain ⟨k0_, k1_, k2_⟩ := gx; go_simp
          try simp only [Act.put, List.getElem_toArray, List.getElem_cons_succ, List.getElem_cons_zero, List.setIfInBounds_toArray, List.set_cons_zero, List.set_cons_succ]
          refine wpAnyH_take (i := 4) (v := .slice (some ⟨g, 0, none⟩) n c) rfl (by kernel_rfl) (by kernel_rfl) (by kernel_rfl) (fun _ _ _ h => h) (Or.inl ⟨by rfl, ?_⟩) hHeld ?_
          · intro w' hSw; subst hSw; go_simp <;> omega
          try simp only [Act.put, List.getElem_toArray, List.getElem_cons_succ, List.getElem_cons_zero, List.setIfInBounds_toArray, List.set_cons_zero, List.set_cons_succ]
          refine wpAnyH_take (i := 5) (v := .int .i64 ((k : Int))) rfl (by kernel_rfl) (by kernel_rfl) (by kernel_rfl) (fun _ _ _ h => h) (Or.inl ⟨by rfl, ?_⟩) hHeld ?_
          · intro w' hSw; subst hSw; go_simp <;> omega
          try simp only [Act.put, List.getElem_toArray, List.getElem_cons_succ, List.getElem_cons_zero, List.setIfInBounds_toArray, List.set_cons_zero, List.set_cons_succ]
          refine wpAnyH_take (i := 6) (v := .int .i64 ((m : Int))) rfl (by kernel_rfl) (by kernel_rfl) (by kernel_rfl) (fun _ _ _ h => h) (Or.inl ⟨by rfl, ?_⟩) hHeld ?_
          · intro w' hSw; subst hSw; go_simp <;> omega
          try simp only [Act.put, List.getElem_toArray, List.getElem_cons_succ, List.getElem_cons_zero, List.setIfInBounds_toArray, List.set_cons_zero, List.set_cons_succ]
          refine wpAnyH_take (i := 7) (v := .pointer (some ⟨g, m * 3, none⟩)) rfl (by kernel_rfl) (by kernel_rfl) (by kernel_rfl) (fun _ _ _ h => h) (Or.inl ⟨by rfl, ?_⟩) hHeld ?_
          · intro w' hSw; subst hSw; go_simp <;> omega
          try simp only [Act.put, List.getElem_toArray, List.getElem_cons_succ, List.getElem_cons_zero, List.setIfInBounds_toArray, List.set_cons_zero, List.set_cons_succ]
          refine wpAnyH_take (i := 8) (v := .agg #[.int .i64 X.kind, .int .i64 X.n, .string ⟨X.s.toArray⟩]) rfl (by kernel_rfl) (by kernel_rfl) (by kernel_rfl) (fun _ _ _ h => h) (Or.inl ⟨by rfl, ?_⟩) hHeld ?_
          · intro w' hSw; subst hSw; obtain ⟨k0_, k1_, k2_⟩ := gy; go_simp
          try simp only [Act.put, List.getElem_toArray, List.getElem_cons_succ, List.getElem_cons_zero, List.setIfInBounds_toArray, List.set_cons_zero, List.set_cons_succ]
          refine wpAnyH_take (i := 9) (v := .bool true) rfl (by kernel_rfl) (by kernel_rfl) (by kernel_rfl) (fun _ _ _ h => h) (Or.inl ⟨by rfl, ?_⟩) hHeld ?_
          · intro w' hSw; subst hSw; go_simp
          try simp only [Act.put, List.getElem_toArray, List.getElem_cons_succ, List.getElem_cons_zero, List.setIfInBounds_toArray, List.set_cons_zero, List.set_cons_succ]
          refine wpAnyH_done (by kernel_rfl) ?_ _
          clear hHeld
          have Hc2 : Hid (compactL cmpV (xs.take (k + 1)) = xs.take k) := Lib.hid (by rw [Hst.out, if_pos Heq.out, Hc.out])
          have HB6 := Lib.hid (HB.out.trans ((Below.refl wo.heap.size wo).drew.mono hz))
          have hrf := run_fromV g n c k hlt hnc hcm
          have hrt := fun k' (hk' : k' ≤ n) => run_toV g n c k' hk' hnc hcm
          have Hrt := Lib.hid hrt
          obtain ⟨k0, hk0⟩ : ∃ k0, k0 = k := ⟨_, rfl⟩
          rw [← hk0] at hrf
          have Hk0 := Lib.hid hk0
          clear hrt hk0 gx gy
          obtain ⟨n2, hn2⟩ : ∃ n2, n2 = n - k0 := ⟨_, rfl⟩
          obtain ⟨c2, hc2⟩ : ∃ c2, c2 = c - k0 := ⟨_, rfl⟩
          obtain ⟨o0, ho0⟩ : ∃ o0, o0 = k0 * 3 := ⟨_, rfl⟩
          rw [← hn2, ← hc2, ← ho0] at hrf
          have Hn2 := Lib.hid hn2
          have Ho0 := Lib.hid ho0
          clear hn2 hc2 ho0
          rw [← Hk0.out]
          go_wp2_with fail
          go_loopw [3, 5] (fun t3 t5 wr => ∃ (k' k2 : Nat) (ys : List V), 1 ≤ k2 ∧ k0 + k2 ≤ n ∧ k' + 1 ≤ k0 + k2 ∧ t3 = .int .i64 k' ∧ t5 = .int .i64 k2 ∧ OwnV lo wr (.slice (some ⟨g, 0, none⟩) n c) ys ∧ (∀ j, k0 + k2 ≤ j + 1 → ys[j]? = xs[j]?) ∧ ys.length = n ∧ ys.take k' = compactL cmpV (xs.take (k0 + k2)) ∧ Only (fun z => z = g) w wr) (fun _ t5 _ => n2 - (intOf t5).toNat)
          case atStart => exact ⟨k0, 1, xs, Nat.le_refl _, by have := Hk0.out; omega, Nat.le_refl _, rfl, rfl, Own.kept H.out HB6.out, fun j _ => rfl, Hn.out.symm, by rw [Hk0.out, Hc2.out], Below.only HB6.out⟩
          case round =>
            obtain ⟨k', k2, ys, h1, h2, h3, rfl, rfl, ho', hsame, hlen', hcx, hOn⟩ := hrel
            obtain ⟨wi, ewi⟩ : ∃ x, x = wr := ⟨_, rfl⟩
            subst ewi
            have Ho' := Lib.hid ho'
            have Hsame := Lib.hid hsame
            have Hlen' := Lib.hid hlen'
            have Hcx := Lib.hid hcx
            have HOn := Lib.hid hOn
            have hzi := hOn.size
            clear ho' hsame hlen' hcx hOn hrf
            have kk2 : (0 : Int) ≤ (k2 : Int) := by omega
            by_cases hlt2 : k2 < n2
            · have hn2 := Hn2.out
              have ho0 := Ho0.out
              have hkn2 : k0 + k2 < n := by omega
              obtain ⟨m2, hm2⟩ : ∃ m2, k2 = m2 + 1 := ⟨k2 - 1, by omega⟩
              have hkx : k0 + k2 < xs.length := by rw [← Hn.out]; exact hkn2
              have hmx : k0 + m2 < xs.length := by rw [← Hn.out]; omega
              have hky : k0 + k2 < ys.length := by rw [Hlen'.out]; exact hkn2
              have hmy : k0 + m2 < ys.length := by rw [Hlen'.out]; omega
              have hk'y : k' < ys.length := by rw [Hlen'.out]; omega
              have wsub2 : IntKind.i64.wrap ((k2 : Int) - 1) = (m2 : Int) := by rw [show (k2 : Int) - 1 = (m2 : Int) by omega]; exact wrap_ok (by omega) (by omega)
              have gx := Ho'.out.at hky
              have gy := Ho'.out.at hmy
              have gk := Ho'.out.at hk'y
              have ey : ys[k0 + k2] = xs[k0 + k2] := by
                have := Hsame.out (k0 + k2) (by omega)
                rw [List.getElem?_eq_getElem hky, List.getElem?_eq_getElem hkx] at this
                injection this
              have ey2 : ys[k0 + m2] = xs[k0 + m2] := by
                have := Hsame.out (k0 + m2) (by omega)
                rw [List.getElem?_eq_getElem hmy, List.getElem?_eq_getElem hmx] at this
                injection this
              rw [ey] at gx
              rw [ey2] at gy
              have hfr : ∀ i, wi.frozen? ⟨g, i, none⟩ = false := by
                obtain ⟨g', c', hv', -, -, -, -, -, hfr⟩ := Own.form Ho'.out (by intro e; rw [e] at hky; simp at hky)
                injection hv' with e1 e2 e3
                injection e1 with e1
                injection e1 with e1
                subst e1
                exact hfr
              have fk0 := hfr (k' * 3)
              have fk1 := hfr (k' * 3 + 1)
              have fk2 := hfr (k' * 3 + 2)
              have Hst := Lib.hid (compactV_take (xs := xs) (k := k0 + k2) (by omega) hkx)
              rw [show xs[k0 + k2 - 1]'(by omega) = xs[k0 + m2] by congr 1; omega] at Hst
              obtain ⟨X, hX⟩ : ∃ X, X = xs[k0 + k2] := ⟨_, rfl⟩
              obtain ⟨Y, hY⟩ : ∃ Y, Y = xs[k0 + m2] := ⟨_, rfl⟩
              rw [← hX] at gx Hst
              rw [← hY] at gy Hst
              rw [show (k0 + k2) * 3 = o0 + k2 * 3 by omega] at gx
              rw [show (k0 + m2) * 3 = o0 + m2 * 3 by omega] at gy
              have k2n : (k2 : Int) < (n2 : Int) := by omega
              have m2n : (m2 : Int) < (n2 : Int) := by omega
              have m20 : (0 : Int) ≤ (m2 : Int) := by omega
              have k'n : (k' : Int) < (n : Int) := by omega
              have k'0 : (0 : Int) ≤ (k' : Int) := by omega
              have hgw : g < wi.heap.size := by omega
              clear hX hY hm2 hn2 ho0 ey ey2 hfr
              by_cases hXY : X = Y
              · subst hXY
                have Heq : Hid (cmpV X X = 0) := Lib.hid (cmpV_cmp.self X)
                go_upto_region 11 with fail
                refine wp_region_held_drew (S := fun w' => w' = wi.drew) (by kernel_rfl) rfl (fun hHeld => ?_)
                refine wpAnyH_take (i := 0) (v := .slice (some ⟨g, o0, none⟩) n2 c2) rfl (by kernel_rfl) (by kernel_rfl) (by kernel_rfl) (fun _ _ _ h => h) (Or.inl ⟨by rfl, ?_⟩) hHeld ?_
                · intro w' hSw; subst hSw; go_simp <;> omega
                try simp only [Act.put, List.getElem_toArray, List.getElem_cons_succ, List.getElem_cons_zero, List.setIfInBounds_toArray, List.set_cons_zero, List.set_cons_succ]
                refine wpAnyH_take (i := 1) (v := .int .i64 ((k2 : Int))) rfl (by kernel_rfl) (by kernel_rfl) (by kernel_rfl) (fun _ _ _ h => h) (Or.inl ⟨by rfl, ?_⟩) hHeld ?_
                · intro w' hSw; subst hSw; go_simp <;> omega
                try simp only [Act.put, List.getElem_toArray, List.getElem_cons_succ, List.getElem_cons_zero, List.setIfInBounds_toArray, List.set_cons_zero, List.set_cons_succ]
                refine wpAnyH_take (i := 2) (v := .pointer (some ⟨g, o0 + k2 * 3, none⟩)) rfl (by kernel_rfl) (by kernel_rfl) (by kernel_rfl) (fun _ _ _ h => h) (Or.inl ⟨by rfl, ?_⟩) hHeld ?_
                · intro w' hSw; subst hSw; go_simp <;> omega
                try simp only [Act.put, List.getElem_toArray, List.getElem_cons_succ, List.getElem_cons_zero, List.setIfInBounds_toArray, List.set_cons_zero, List.set_cons_succ]
                refine wpAnyH_take (i := 3) (v := .agg #[.int .i64 X.kind, .int .i64 X.n, .string ⟨X.s.toArray⟩]) rfl (by kernel_rfl) (by kernel_rfl) (by kernel_rfl) (fun _ _ _ h => h) (Or.inl ⟨by rfl, ?_⟩) hHeld ?_
                · intro w' hSw; subst hSw; obtain ⟨k0_, k1_, k2_⟩ := gx; go_simp
                try simp only [Act.put, List.getElem_toArray, List.getElem_cons_succ, List.getElem_cons_zero, List.setIfInBounds_toArray, List.set_cons_zero, List.set_cons_succ]
                refine wpAnyH_take (i := 4) (v := .slice (some ⟨g, o0, none⟩) n2 c2) rfl (by kernel_rfl) (by kernel_rfl) (by kernel_rfl) (fun _ _ _ h => h) (Or.inl ⟨by rfl, ?_⟩) hHeld ?_
                · intro w' hSw; subst hSw; go_simp <;> omega
                try simp only [Act.put, List.getElem_toArray, List.getElem_cons_succ, List.getElem_cons_zero, List.setIfInBounds_toArray, List.set_cons_zero, List.set_cons_succ]
                refine wpAnyH_take (i := 5) (v := .int .i64 ((k2 : Int))) rfl (by kernel_rfl) (by kernel_rfl) (by kernel_rfl) (fun _ _ _ h => h) (Or.inl ⟨by rfl, ?_⟩) hHeld ?_
                · intro w' hSw; subst hSw; go_simp <;> omega
                try simp only [Act.put, List.getElem_toArray, List.getElem_cons_succ, List.getElem_cons_zero, List.setIfInBounds_toArray, List.set_cons_zero, List.set_cons_succ]
                refine wpAnyH_take (i := 6) (v := .int .i64 ((m2 : Int))) rfl (by kernel_rfl) (by kernel_rfl) (by kernel_rfl) (fun _ _ _ h => h) (Or.inl ⟨by rfl, ?_⟩) hHeld ?_
                · intro w' hSw; subst hSw; go_simp <;> omega
                try simp only [Act.put, List.getElem_toArray, List.getElem_cons_succ, List.getElem_cons_zero, List.setIfInBounds_toArray, List.set_cons_zero, List.set_cons_succ]
                refine wpAnyH_take (i := 7) (v := .pointer (some ⟨g, o0 + m2 * 3, none⟩)) rfl (by kernel_rfl) (by kernel_rfl) (by kernel_rfl) (fun _ _ _ h => h) (Or.inl ⟨by rfl, ?_⟩) hHeld ?_
                · intro w' hSw; subst hSw; go_simp <;> omega
                try simp only [Act.put, List.getElem_toArray, List.getElem_cons_succ, List.getElem_cons_zero, List.setIfInBounds_toArray, List.set_cons_zero, List.set_cons_succ]
                refine wpAnyH_take (i := 8) (v := .agg #[.int .i64 X.kind, .int .i64 X.n, .string ⟨X.s.toArray⟩]) rfl (by kernel_rfl) (by kernel_rfl) (by kernel_rfl) (fun _ _ _ h => h) (Or.inl ⟨by rfl, ?_⟩) hHeld ?_
                · intro w' hSw; subst hSw; obtain ⟨k0_, k1_, k2_⟩ := gy; go_simp
                try simp only [Act.put, List.getElem_toArray, List.getElem_cons_succ, List.getElem_cons_zero, List.setIfInBounds_toArray, List.set_cons_zero, List.set_cons_succ]
                refine wpAnyH_take (i := 9) (v := .bool false) rfl (by kernel_rfl) (by kernel_rfl) (by kernel_rfl) (fun _ _ _ h => h) (Or.inl ⟨by rfl, ?_⟩) hHeld ?_
                · intro w' hSw; subst hSw; go_simp
                try simp only [Act.put, List.getElem_toArray, List.getElem_cons_succ, List.getElem_cons_zero, List.setIfInBounds_toArray, List.set_cons_zero, List.set_cons_succ]
                refine wpAnyH_done (by kernel_rfl) ?_ _
                clear hHeld
                clear gx gy gk fk0 fk1 fk2
                go_wp2_with fail
                go_roundw
                case rel => exact ⟨k', k2 + 1, ys, by omega, by omega, by omega, rfl, by go_num, Own.kept Ho'.out (Below.refl wi.heap.size wi).drew, fun j hj => Hsame.out j (by omega), Hlen'.out, by rw [← Nat.add_assoc, Hst.out, if_pos Heq.out]; exact Hcx.out, HOn.out.trans (Only.drew _)⟩
                case measure => simp [intOf]; omega
              · have Hne := Lib.hid hXY
                clear hXY
                go_upto_region 11 with fail
                refine wp_region_held_drew (S := fun w' => w' = wi.drew) (by kernel_rfl) rfl (fun hHeld => ?_)
                refine wpAnyH_take (i := 0) (v := .slice (some ⟨g, o0, none⟩) n2 c2) rfl (by kernel_rfl) (by kernel_rfl) (by kernel_rfl) (fun _ _ _ h => h) (Or.inl ⟨by rfl, ?_⟩) hHeld ?_
                · intro w' hSw; subst hSw; go_simp <;> omega
                try simp only [Act.put, List.getElem_toArray, List.getElem_cons_succ, List.getElem_cons_zero, List.setIfInBounds_toArray, List.set_cons_zero, List.set_cons_succ]
                refine wpAnyH_take (i := 1) (v := .int .i64 ((k2 : Int))) rfl (by kernel_rfl) (by kernel_rfl) (by kernel_rfl) (fun _ _ _ h => h) (Or.inl ⟨by rfl, ?_⟩) hHeld ?_
                · intro w' hSw; subst hSw; go_simp <;> omega
                try simp only [Act.put, List.getElem_toArray, List.getElem_cons_succ, List.getElem_cons_zero, List.setIfInBounds_toArray, List.set_cons_zero, List.set_cons_succ]
                refine wpAnyH_take (i := 2) (v := .pointer (some ⟨g, o0 + k2 * 3, none⟩)) rfl (by kernel_rfl) (by kernel_rfl) (by kernel_rfl) (fun _ _ _ h => h) (Or.inl ⟨by rfl, ?_⟩) hHeld ?_
                · intro w' hSw; subst hSw; go_simp <;> omega
                try simp only [Act.put, List.getElem_toArray, List.getElem_cons_succ, List.getElem_cons_zero, List.setIfInBounds_toArray, List.set_cons_zero, List.set_cons_succ]
                refine wpAnyH_take (i := 3) (v := .agg #[.int .i64 X.kind, .int .i64 X.n, .string ⟨X.s.toArray⟩]) rfl (by kernel_rfl) (by kernel_rfl) (by kernel_rfl) (fun _ _ _ h => h) (Or.inl ⟨by rfl, ?_⟩) hHeld ?_
                · intro w' hSw; subst hSw; obtain ⟨k0_, k1_, k2_⟩ := gx; go_simp
                try simp only [Act.put, List.getElem_toArray, List.getElem_cons_succ, List.getElem_cons_zero, List.setIfInBounds_toArray, List.set_cons_zero, List.set_cons_succ]
                refine wpAnyH_take (i := 4) (v := .slice (some ⟨g, o0, none⟩) n2 c2) rfl (by kernel_rfl) (by kernel_rfl) (by kernel_rfl) (fun _ _ _ h => h) (Or.inl ⟨by rfl, ?_⟩) hHeld ?_
                · intro w' hSw; subst hSw; go_simp <;> omega
                try simp only [Act.put, List.getElem_toArray, List.getElem_cons_succ, List.getElem_cons_zero, List.setIfInBounds_toArray, List.set_cons_zero, List.set_cons_succ]
                refine wpAnyH_take (i := 5) (v := .int .i64 ((k2 : Int))) rfl (by kernel_rfl) (by kernel_rfl) (by kernel_rfl) (fun _ _ _ h => h) (Or.inl ⟨by rfl, ?_⟩) hHeld ?_
                · intro w' hSw; subst hSw; go_simp <;> omega
                try simp only [Act.put, List.getElem_toArray, List.getElem_cons_succ, List.getElem_cons_zero, List.setIfInBounds_toArray, List.set_cons_zero, List.set_cons_succ]
                refine wpAnyH_take (i := 6) (v := .int .i64 ((m2 : Int))) rfl (by kernel_rfl) (by kernel_rfl) (by kernel_rfl) (fun _ _ _ h => h) (Or.inl ⟨by rfl, ?_⟩) hHeld ?_
                · intro w' hSw; subst hSw; go_simp <;> omega
                try simp only [Act.put, List.getElem_toArray, List.getElem_cons_succ, List.getElem_cons_zero, List.setIfInBounds_toArray, List.set_cons_zero, List.set_cons_succ]
                refine wpAnyH_take (i := 7) (v := .pointer (some ⟨g, o0 + m2 * 3, none⟩)) rfl (by kernel_rfl) (by kernel_rfl) (by kernel_rfl) (fun _ _ _ h => h) (Or.inl ⟨by rfl, ?_⟩) hHeld ?_
                · intro w' hSw; subst hSw; go_simp <;> omega
                try simp only [Act.put, List.getElem_toArray, List.getElem_cons_succ, List.getElem_cons_zero, List.setIfInBounds_toArray, List.set_cons_zero, List.set_cons_succ]
                refine wpAnyH_take (i := 8) (v := .agg #[.int .i64 Y.kind, .int .i64 Y.n, .string ⟨Y.s.toArray⟩]) rfl (by kernel_rfl) (by kernel_rfl) (by kernel_rfl) (fun _ _ _ h => h) (Or.inl ⟨by rfl, ?_⟩) hHeld ?_
                · intro w' hSw; subst hSw; obtain ⟨k0_, k1_, k2_⟩ := gy; go_simp
                try simp only [Act.put, List.getElem_toArray, List.getElem_cons_succ, List.getElem_cons_zero, List.setIfInBounds_toArray, List.set_cons_zero, List.set_cons_succ]
                refine wpAnyH_take (i := 9) (v := .bool true) rfl (by kernel_rfl) (by kernel_rfl) (by kernel_rfl) (fun _ _ _ h => h) (Or.inl ⟨by rfl, ?_⟩) hHeld ?_
                · intro w' hSw; subst hSw; rcases V.differ Hne.out with h1 | ⟨h1, h2⟩ | ⟨h1, h2, h3⟩ <;> go_simp
                try simp only [Act.put, List.getElem_toArray, List.getElem_cons_succ, List.getElem_cons_zero, List.setIfInBounds_toArray, List.set_cons_zero, List.set_cons_succ]
                refine wpAnyH_done (by kernel_rfl) ?_ _
                clear hHeld
                have HO5 := Lib.hid (OwnV.setAt (Own.kept Ho'.out (Below.refl wi.heap.size wi).drew) (j := k') hk'y X)
                have HOn5 := Lib.hid ((((HOn.out.trans (Only.drew _)).trans (Only.setCell (A := fun z => z = g) wi.drew (p := ⟨g, k' * 3, none⟩) rfl (.int .i64 X.kind))).trans (Only.setCell (A := fun z => z = g) _ (p := ⟨g, k' * 3 + 1, none⟩) rfl (.int .i64 X.n))).trans (Only.setCell (A := fun z => z = g) _ (p := ⟨g, k' * 3 + 2, none⟩) rfl (.string ⟨X.s.toArray⟩)))
                have Hs5 : Hid (∀ j, k0 + (k2 + 1) ≤ j + 1 → (ys.set k' X)[j]? = xs[j]?) := Lib.hid (fun j hj => by
                  rw [List.getElem?_set_ne (by omega)]
                  exact Hsame.out j (by omega))
                have Hc5 : Hid ((ys.set k' X).take (k' + 1) = compactL cmpV (xs.take (k0 + (k2 + 1)))) := Lib.hid (by
                  rw [← Nat.add_assoc, Hst.out, if_neg (fun e => Hne.out ((cmpV_cmp.zero _ _).1 e)), ← Hcx.out, List.take_succ_eq_append_getElem (by rw [List.length_set]; exact hk'y), List.take_set_of_le (Nat.le_refl _), List.getElem_set_self])
                obtain ⟨gx0, gx1, gx2⟩ : wi.drew.cell? _ = _ ∧ wi.drew.cell? _ = _ ∧ wi.drew.cell? _ = _ := gx
                obtain ⟨gk0, gk1, gk2⟩ : wi.drew.cell? _ = _ ∧ wi.drew.cell? _ = _ ∧ wi.drew.cell? _ = _ := gk
                change wi.drew.frozen? _ = false at fk0
                change wi.drew.frozen? _ = false at fk1
                change wi.drew.frozen? _ = false at fk2
                generalize wi.drew = wd at *
                generalize ys[k'] = Z at *
                clear gy
                go_wp2_with fail
                go_roundw
                case rel => exact ⟨k' + 1, k2 + 1, ys.set k' X, by omega, by omega, by omega, by go_num, by go_num, HO5.out, Hs5.out, by rw [List.length_set]; exact Hlen'.out, Hc5.out, HOn5.out⟩
                case measure => simp [intOf]; omega
            · have hn2 := Hn2.out
              have hall : k0 + k2 = n := by have := Hk0.out; omega
              have hk'n : k' < n := by omega
              have hcut := OwnV.cut Ho'.out (k := k') (by rw [Hlen'.out]; omega)
              obtain ⟨g', c', hv', -, hgw, -, -, hcells, hfr⟩ := Own.form Ho'.out (by intro e; have := Hlen'.out; rw [e] at this; simp at this; omega)
              injection hv' with e1 e2 e3
              injection e1 with e1
              injection e1 with e1
              subst e1 e3
              clear e2
              obtain ⟨us, hcl⟩ := run_clearV wi 3 g (k' * 3) (n - k') (c - k') (by omega) (fun j hj => by
                have hb3 : k' * 3 + j < (ys.flatMap V.enc).length := by rw [flatMap_len enc3, Hlen'.out]; omega
                have := hcells (k' * 3 + j) _ (List.getElem?_eq_getElem hb3)
                rw [Nat.zero_add] at this
                rw [this]; rfl) (fun j => hfr _)
              have hcl2 : ∀ ty, (Builtin.clear_ #[35] ty #[.slice (some ⟨g, k' * 3, none⟩) (n - k') (c - k')]).run Tryz.prog wi = .ok (.tuple #[]) (wi.setCells g (k' * 3) us) := fun ty => hcl
              have hrf := run_fromV g n c k' hk'n hnc hcm
              have hrt := Hrt.out k' (by omega)
              have hcx := Hcx.out
              rw [hall, List.take_of_length_le (l := xs) (by rw [← Hn.out]; exact Nat.le_refl _)] at hcx
              have hOnF := HOn.out.trans (only_setCells g us wi (k' * 3))
              have hown := OwnV.setOut us wi (k' * 3) hcut (by rw [List.length_take, Hlen'.out]; omega)
              rw [hcx] at hown
              have hr := HR.out (wi.setCells g (k' * 3) us) (.slice (some ⟨g, 0, none⟩) k' c) (hOnF.mono (fun z _ hz => by rw [hz]; rfl)) hown
              have k2n : ¬ (k2 : Int) < (n2 : Int) := by omega
              have k'n : (k' : Int) < (n : Int) := by omega
              have k'0 : (0 : Int) ≤ (k' : Int) := by omega
              clear hcells hfr hOnF hcut hown hcx hcl
              go_wp2_with fail
              first | exact hr | exact fin hr rfl
        · have Hne := Lib.hid hXY
          clear hXY
          go_upto_region 6 with fail
          refine wp_region_held_drew (S := fun w' => w' = wo.drew) (by kernel_rfl) rfl (fun hHeld => ?_)
          refine wpAnyH_take (i := 0) (v := .slice (some ⟨g, 0, none⟩) n c) rfl (by kernel_rfl) (by kernel_rfl) (by kernel_rfl) (fun _ _ _ h => h) (Or.inl ⟨by rfl, ?_⟩) hHeld ?_
          · intro w' hSw; subst hSw; go_simp <;> omega
          try simp only [Act.put, List.getElem_toArray, List.getElem_cons_succ, List.getElem_cons_zero, List.setIfInBounds_toArray, List.set_cons_zero, List.set_cons_succ]
          refine wpAnyH_take (i := 1) (v := .int .i64 ((k : Int))) rfl (by kernel_rfl) (by kernel_rfl) (by kernel_rfl) (fun _ _ _ h => h) (Or.inl ⟨by rfl, ?_⟩) hHeld ?_
          · intro w' hSw; subst hSw; go_simp <;> omega
          try simp only [Act.put, List.getElem_toArray, List.getElem_cons_succ, List.getElem_cons_zero, List.setIfInBounds_toArray, List.set_cons_zero, List.set_cons_succ]
          refine wpAnyH_take (i := 2) (v := .pointer (some ⟨g, k * 3, none⟩)) rfl (by kernel_rfl) (by kernel_rfl) (by kernel_rfl) (fun _ _ _ h => h) (Or.inl ⟨by rfl, ?_⟩) hHeld ?_
          · intro w' hSw; subst hSw; go_simp <;> omega
          try simp only [Act.put, List.getElem_toArray, List.getElem_cons_succ, List.getElem_cons_zero, List.setIfInBounds_toArray, List.set_cons_zero, List.set_cons_succ]
          refine wpAnyH_take (i := 3) (v := .agg #[.int .i64 X.kind, .int .i64 X.n, .string ⟨X.s.toArray⟩]) rfl (by kernel_rfl) (by kernel_rfl) (by kernel_rfl) (fun _ _ _ h => h) (Or.inl ⟨by rfl, ?_⟩) hHeld ?_
          · intro w' hSw; subst hSw; obtain ⟨k0_, k1_, k2_⟩ := gx; go_simp
          try simp only [Act.put, List.getElem_toArray, List.getElem_cons_succ, List.getElem_cons_zero, List.setIfInBounds_toArray, List.set_cons_zero, List.set_cons_succ]
          refine wpAnyH_take (i := 4) (v := .slice (some ⟨g, 0, none⟩) n c) rfl (by kernel_rfl) (by kernel_rfl) (by kernel_rfl) (fun _ _ _ h => h) (Or.inl ⟨by rfl, ?_⟩) hHeld ?_
          · intro w' hSw; subst hSw; go_simp <;> omega
          try simp only [Act.put, List.getElem_toArray, List.getElem_cons_succ, List.getElem_cons_zero, List.setIfInBounds_toArray, List.set_cons_zero, List.set_cons_succ]
          refine wpAnyH_take (i := 5) (v := .int .i64 ((k : Int))) rfl (by kernel_rfl) (by kernel_rfl) (by kernel_rfl) (fun _ _ _ h => h) (Or.inl ⟨by rfl, ?_⟩) hHeld ?_
          · intro w' hSw; subst hSw; go_simp <;> omega
          try simp only [Act.put, List.getElem_toArray, List.getElem_cons_succ, List.getElem_cons_zero, List.setIfInBounds_toArray, List.set_cons_zero, List.set_cons_succ]
          refine wpAnyH_take (i := 6) (v := .int .i64 ((m : Int))) rfl (by kernel_rfl) (by kernel_rfl) (by kernel_rfl) (fun _ _ _ h => h) (Or.inl ⟨by rfl, ?_⟩) hHeld ?_
          · intro w' hSw; subst hSw; go_simp <;> omega
          try simp only [Act.put, List.getElem_toArray, List.getElem_cons_succ, List.getElem_cons_zero, List.setIfInBounds_toArray, List.set_cons_zero, List.set_cons_succ]
          refine wpAnyH_take (i := 7) (v := .pointer (some ⟨g, m * 3, none⟩)) rfl (by kernel_rfl) (by kernel_rfl) (by kernel_rfl) (fun _ _ _ h => h) (Or.inl ⟨by rfl, ?_⟩) hHeld ?_
          · intro w' hSw; subst hSw; go_simp <;> omega
          try simp only [Act.put, List.getElem_toArray, List.getElem_cons_succ, List.getElem_cons_zero, List.setIfInBounds_toArray, List.set_cons_zero, List.set_cons_succ]
          refine wpAnyH_take (i := 8) (v := .agg #[.int .i64 Y.kind, .int .i64 Y.n, .string ⟨Y.s.toArray⟩]) rfl (by kernel_rfl) (by kernel_rfl) (by kernel_rfl) (fun _ _ _ h => h) (Or.inl ⟨by rfl, ?_⟩) hHeld ?_
          · intro w' hSw; subst hSw; obtain ⟨k0_, k1_, k2_⟩ := gy; go_simp
          try simp only [Act.put, List.getElem_toArray, List.getElem_cons_succ, List.getElem_cons_zero, List.setIfInBounds_toArray, List.set_cons_zero, List.set_cons_succ]
          refine wpAnyH_take (i := 9) (v := .bool false) rfl (by kernel_rfl) (by kernel_rfl) (by kernel_rfl) (fun _ _ _ h => h) (Or.inl ⟨by rfl, ?_⟩) hHeld ?_
          · intro w' hSw; subst hSw; rcases V.differ Hne.out with h1 | ⟨h1, h2⟩ | ⟨h1, h2, h3⟩ <;> go_simp
          try simp only [Act.put, List.getElem_toArray, List.getElem_cons_succ, List.getElem_cons_zero, List.setIfInBounds_toArray, List.set_cons_zero, List.set_cons_succ]
          refine wpAnyH_done (by kernel_rfl) ?_ _
          clear hHeld
          have Hc2 : Hid (compactL cmpV (xs.take (k + 1)) = xs.take (k + 1)) := Lib.hid (by rw [Hst.out, if_neg (fun e => Hne.out ((cmpV_cmp.zero _ _).1 e)), Hc.out, Htk.out])
          clear gx gy
          go_wp2_with fail
          go_roundw
          case rel => exact ⟨k + 1, by omega, by omega, by go_num, HB.out.trans ((Below.refl wo.heap.size wo).drew.mono hz), Hc2.out⟩
          case measure => simp [intOf]; omega
      · obtain rfl : k = n := by omega
        have hcx := Hc.out
        rw [List.take_of_length_le (by rw [← Hn.out]; exact Nat.le_refl _)] at hcx
        have hr := HR.out wo _ (Below.only HB.out) (by rw [hcx]; exact Own.kept H.out HB.out)
        clear hcx
        have nn : ¬ ((k : Nat) : Int) < (k : Int) := by omega
        go_wp2_with fail
        first | exact hr | exact fin hr rfl
end Go.Proofs.YtmconajkgjfplaaGreat
end

/- The stable sort, in plain words: exchanges of ranges, turns, merges, and chunks that are sorted. -/
section
set_option linter.unusedVariables false
set_option linter.unusedSimpArgs false
namespace Go.Proofs.YtmconajkgjfplaaGreat
open Go.RowKit Go.Sort Go.Shelf
set_option linter.unusedVariables false
set_option linter.unusedSimpArgs false

section
theorem SWO.asym' {α : Type} {lt : α → α → Bool} (hO : SWO lt) {x y : α} (h : lt x y = true) : lt y x = false := by
  cases h2 : lt y x with
  | false => rfl
  | true => have := hO.trans _ _ _ h h2; rw [hO.irrefl] at this; cases this
variable {α : Type} [Inhabited α]
/-- Two ranges are exchanged, place by place. -/
def swapR (d : Array α) (a b : Nat) : Nat → Array α
  | 0 => d
  | n + 1 => swp (swapR d a b n) (a + n) (b + n)
theorem swapR_size (d : Array α) (a b : Nat) : ∀ n, (swapR d a b n).size = d.size
  | 0 => rfl
  | n + 1 => by rw [swapR, size_swp, swapR_size d a b n]
theorem swapR_get (d : Array α) (a b : Nat) : ∀ n, a + n ≤ b → b + n ≤ d.size → ∀ k, (swapR d a b n)[k]! = if a ≤ k ∧ k < a + n then d[b + (k - a)]! else if b ≤ k ∧ k < b + n then d[a + (k - b)]! else d[k]! := by
  intro n
  induction n with
  | zero =>
    intro _ _ k
    rw [if_neg (by omega), if_neg (by omega)]
    rfl
  | succ n ih =>
    intro h1 h2 k
    have ih := ih (by omega) (by omega)
    have hsz := swapR_size d a b n
    rw [swapR]
    by_cases hka : k = a + n
    · subst hka
      rw [swp_left _ _ _ (by omega) (by omega), ih, if_neg (by omega), if_neg (by omega), if_pos (by omega)]
      congr 1; omega
    · by_cases hkb : k = b + n
      · subst hkb
        rw [swp_right _ _ _ (by omega), ih, if_neg (by omega), if_neg (by omega), if_neg (by omega), if_pos (by omega)]
        congr 1; omega
      · rw [swp_other _ _ _ _ hka hkb, ih]
        by_cases c1 : a ≤ k ∧ k < a + n
        · rw [if_pos c1, if_pos (by omega)]
        · rw [if_neg c1]
          by_cases c2 : b ≤ k ∧ k < b + n
          · rw [if_pos c2, if_neg (by omega), if_pos (by omega)]
          · rw [if_neg c2, if_neg (by omega), if_neg (by omega)]
theorem swapR_perm (d : Array α) (a b lo hi : Nat) (hlo : lo ≤ a) (hlb : lo ≤ b) : ∀ n, a + n ≤ hi → b + n ≤ hi → hi ≤ d.size → PermIn lo hi d (swapR d a b n)
  | 0, _, _, _ => permIn_refl _ _ _
  | n + 1, h1, h2, h3 => permIn_trans _ _ _ _ _ (swapR_perm d a b lo hi hlo hlb n (by omega) (by omega) h3) (swp_permIn _ _ _ _ _ (by omega) (by omega) (by omega) (by omega) (by rw [swapR_size]; exact h3))
/-- d' is d, but that what stood in [m, b) stands ahead of what stood in [a, m). -/
def Rot (a m b : Nat) (d d' : Array α) : Prop := ∀ k, d'[k]! = if a ≤ k ∧ k < a + (b - m) then d[m + (k - a)]! else if a + (b - m) ≤ k ∧ k < b then d[a + (k - (a + (b - m)))]! else d[k]!
theorem Rot.last {a m b : Nat} {d : Array α} (ham : a ≤ m) (h : m - a = b - m) (hb : b ≤ d.size) (hmb : m ≤ b) : Rot a m b d (swapR d a m (m - a)) := by
  intro k
  rw [swapR_get d a m (m - a) (by omega) (by omega)]
  by_cases c1 : a ≤ k ∧ k < a + (m - a)
  · rw [if_pos c1, if_pos (by omega)]
  · rw [if_neg c1]
    by_cases c2 : m ≤ k ∧ k < m + (m - a)
    · rw [if_pos c2, if_neg (by omega), if_pos (by omega)]; congr 2; omega
    · rw [if_neg c2, if_neg (by omega), if_neg (by omega)]
theorem Rot.left {m i j : Nat} {d d' : Array α} (him : i ≤ m) (hji : j < i) (hb : m + j ≤ d.size) (h : Rot (m - (i - j)) m (m + j) (swapR d (m - i) m j) d') : Rot (m - i) m (m + j) d d' := by
  intro k
  have g := swapR_get d (m - i) m j (by omega) hb
  rw [h k]
  by_cases c1 : m - i ≤ k ∧ k < m - i + j
  · rw [if_neg (by omega), if_neg (by omega), g, if_pos c1, if_pos (by omega)]
  · by_cases c2 : m - (i - j) ≤ k ∧ k < m - (i - j) + j
    · rw [if_pos (by omega), g, if_neg (by omega), if_pos (by omega), if_neg (by omega), if_pos (by omega)]
      congr 1; omega
    · by_cases c3 : m - (i - j) + j ≤ k ∧ k < m + j
      · rw [if_neg (by omega), if_pos (by omega), g, if_neg (by omega), if_neg (by omega), if_neg (by omega), if_pos (by omega)]
        congr 1; omega
      · rw [if_neg (by omega), if_neg (by omega), g, if_neg (by omega), if_neg (by omega), if_neg (by omega), if_neg (by omega)]
theorem Rot.right {m i j : Nat} {d d' : Array α} (him : i ≤ m) (hij : i < j) (hb : m + j ≤ d.size) (h : Rot (m - i) m (m + (j - i)) (swapR d (m - i) (m + j - i) i) d') : Rot (m - i) m (m + j) d d' := by
  intro k
  have g := swapR_get d (m - i) (m + j - i) i (by omega) (by omega)
  rw [h k]
  by_cases c1 : m - i ≤ k ∧ k < m - i + (j - i)
  · rw [if_pos (by omega), g, if_neg (by omega)]
    by_cases c2 : m + j - i ≤ m + (k - (m - i)) ∧ m + (k - (m - i)) < m + j - i + i
    · rw [if_pos c2, if_pos (by omega)]; omega
    · rw [if_neg c2, if_pos (by omega)]
  · by_cases c2 : m - i + (j - i) ≤ k ∧ k < m + (j - i)
    · rw [if_neg (by omega), if_pos (by omega), g, if_pos (by omega)]
      by_cases c3 : m - i ≤ k ∧ k < m - i + (m + j - m)
      · rw [if_pos (by omega)]; congr 1; omega
      · omega
    · by_cases c3 : m + j - i ≤ k ∧ k < m + j
      · rw [if_neg (by omega), if_neg (by omega), g, if_neg (by omega), if_pos (by omega), if_neg (by omega), if_pos (by omega)]
        congr 1; omega
      · rw [if_neg (by omega), if_neg (by omega), g, if_neg (by omega), if_neg (by omega), if_neg (by omega), if_neg (by omega)]
theorem Rot.none1 (d : Array α) (a b : Nat) : Rot a a b d d := by
  intro k
  by_cases c1 : a ≤ k ∧ k < a + (b - a)
  · rw [if_pos c1]; congr 1; omega
  · rw [if_neg c1, if_neg (by omega)]
theorem Rot.none2 (d : Array α) (a m : Nat) (h : a ≤ m) : Rot a m m d d := by
  intro k
  rw [if_neg (by omega)]
  by_cases c1 : a + (m - m) ≤ k ∧ k < m
  · rw [if_pos c1]; congr 1; omega
  · rw [if_neg c1]
theorem Rot.at1 {a m b : Nat} {d d' : Array α} (h : Rot a m b d d') (hm : m ≤ b) (k : Nat) (h1 : a ≤ k) (h2 : k < a + (b - m)) : d'[k]! = d[m + (k - a)]! := by rw [h k, if_pos ⟨h1, h2⟩]
theorem Rot.at2 {a m b : Nat} {d d' : Array α} (h : Rot a m b d d') (k : Nat) (h1 : a + (b - m) ≤ k) (h2 : k < b) : d'[k]! = d[a + (k - (a + (b - m)))]! := by rw [h k, if_neg (by omega), if_pos ⟨h1, h2⟩]
theorem Rot.at0 {a m b : Nat} {d d' : Array α} (h : Rot a m b d d') (ham : a ≤ m) (hm : m ≤ b) (k : Nat) (h1 : k < a ∨ b ≤ k) : d'[k]! = d[k]! := by rw [h k, if_neg (by omega), if_neg (by omega)]
/-- One goes up past one more. -/
theorem Rot.up {a k : Nat} {d dk : Array α} (hak : a ≤ k) (hk : k + 1 < dk.size) (h : Rot a (a + 1) (k + 1) d dk) : Rot a (a + 1) (k + 2) d (swp dk k (k + 1)) := by
  intro j
  by_cases c1 : j = k
  · subst c1
    rw [swp_left _ _ _ (by omega) (by omega), h.at0 (by omega) (by omega) _ (.inr (by omega)), if_pos (by omega)]
    congr 1; omega
  · by_cases c2 : j = k + 1
    · subst c2
      rw [swp_right _ _ _ hk, h.at2 _ (by omega) (by omega), if_neg (by omega), if_pos (by omega)]
      congr 1; omega
    · rw [swp_other _ _ _ _ c1 c2, h j]
      by_cases c3 : a ≤ j ∧ j < a + (k + 1 - (a + 1))
      · rw [if_pos c3, if_pos (by omega)]
      · rw [if_neg c3, if_neg (by omega), if_neg (by omega), if_neg (by omega)]
/-- One goes down past one more. -/
theorem Rot.down {k m : Nat} {d dk : Array α} (hk0 : 0 < k) (hkm : k ≤ m) (hk : k < dk.size) (h : Rot k m (m + 1) d dk) : Rot (k - 1) m (m + 1) d (swp dk k (k - 1)) := by
  intro j
  by_cases c1 : j = k
  · subst c1
    rw [swp_left _ _ _ hk (by omega), h.at0 (by omega) (by omega) _ (.inl (by omega)), if_neg (by omega), if_pos (by omega)]
    congr 1; omega
  · by_cases c2 : j = k - 1
    · subst c2
      rw [swp_right _ _ _ (by omega), h.at1 (by omega) _ (by omega) (by omega), if_pos (by omega)]
      congr 1; omega
    · rw [swp_other _ _ _ _ c1 c2, h j]
      by_cases c3 : k + (m + 1 - m) ≤ j ∧ j < m + 1
      · rw [if_neg (by omega), if_pos c3, if_neg (by omega), if_pos (by omega)]; congr 1; omega
      · rw [if_neg (by omega), if_neg c3, if_neg (by omega), if_neg (by omega)]
section
/-- Two sorted pieces, nothing of the second one less than one of the first one. -/
theorem SortedIn.join {lt : α → α → Bool} {lo mid hi : Nat} {d : Array α} (h1 : SortedIn lt lo mid d) (h2 : SortedIn lt mid hi d) (hc : ∀ i j, lo ≤ i → i < mid → mid ≤ j → j < hi → lt d[j]! d[i]! = false) : SortedIn lt lo hi d := by
  intro i j hi1 hij hj
  by_cases c1 : j < mid
  · exact h1 i j hi1 hij c1
  · by_cases c2 : i < mid
    · exact hc i j hi1 c2 (by omega) hj
    · exact h2 i j (by omega) hij hj
variable {lt : α → α → Bool} (hO : SWO lt)
include hO
theorem SortedIn.at {lo hi : Nat} {d : Array α} (h : SortedIn lt lo hi d) {i j : Nat} (h1 : lo ≤ i) (h2 : i ≤ j) (h3 : j < hi) : lt d[j]! d[i]! = false := by
  by_cases e : i = j
  · subst e; exact hO.irrefl _
  · exact h i j h1 (by omega) h3
/-- What lies between places is sorted, and stands as the merge wants it. -/
theorem cutMerge {a s m e b mid : Nat} {d d1 : Array α} (h1 : SortedIn lt a m d) (h2 : SortedIn lt m b d) (has : a ≤ s) (hsm : s ≤ m) (hme : m ≤ e) (heb : e ≤ b) (hmid : s + (e - m) = mid) (hr : Rot s m e d d1)
    (hlo : s = a ∨ e = b ∨ lt d[e]! d[s - 1]! = false) (hhi : m = e ∨ s = m ∨ lt d[e - 1]! d[s]! = true) :
    SortedIn lt a s d1 ∧ SortedIn lt s mid d1 ∧ SortedIn lt mid e d1 ∧ SortedIn lt e b d1 ∧ (∀ i j, a ≤ i → i < s → s ≤ j → j < mid → lt d1[i]! d1[j]! = lt d[i]! d[m + (j - s)]!) ∧ (∀ i j, a ≤ i → i < mid → mid ≤ j → j < b → lt d1[j]! d1[i]! = false) := by
  have g0 : ∀ k, k < s ∨ e ≤ k → d1[k]! = d[k]! := fun k hk => hr.at0 hsm hme k hk
  have g1 : ∀ k, s ≤ k → k < mid → d1[k]! = d[m + (k - s)]! := fun k h3 h4 => hr.at1 hme k h3 (by omega)
  have g2 : ∀ k, mid ≤ k → k < e → d1[k]! = d[s + (k - mid)]! := fun k h3 h4 => by rw [hr.at2 k (by omega) h4]; congr 1; omega
  refine ⟨fun i j q1 q2 q3 => ?_, fun i j q1 q2 q3 => ?_, fun i j q1 q2 q3 => ?_, fun i j q1 q2 q3 => ?_, fun i j q1 q2 q3 q4 => ?_, fun i j q1 q2 q3 q4 => ?_⟩
  · rw [g0 i (.inl (by omega)), g0 j (.inl q3)]; exact h1 i j q1 q2 (by omega)
  · rw [g1 i q1 (by omega), g1 j (by omega) q3]; exact h2 _ _ (by omega) (by omega) (by omega)
  · rw [g2 i q1 (by omega), g2 j (by omega) q3]; exact h1 _ _ (by omega) (by omega) (by omega)
  · rw [g0 i (.inr q1), g0 j (.inr (by omega))]; exact h2 i j (by omega) q2 q3
  · rw [g0 i (.inl q2), g1 j q3 q4]
  · by_cases c1 : i < s
    · rw [g0 i (.inl c1)]
      by_cases c2 : j < e
      · rw [g2 j q3 c2]; exact h1 _ _ q1 (by omega) (by omega)
      · rw [g0 j (.inr (by omega))]
        have hb : lt d[e]! d[s - 1]! = false := by
          rcases hlo with h | h | h
          · omega
          · omega
          · exact h
        have k1 := SortedIn.at hO h2 (i := e) (j := j) hme (by omega) q4
        have k2 := SortedIn.at hO h1 (i := i) (j := s - 1) q1 (by omega) (by omega)
        exact hO.ntrans _ _ _ (hO.ntrans _ _ _ k1 hb) k2
    · rw [g1 i (by omega) q2]
      by_cases c2 : j < e
      · rw [g2 j q3 c2]
        have hb : lt d[e - 1]! d[s]! = true := by
          rcases hhi with h | h | h
          · omega
          · omega
          · exact h
        have k1 := SortedIn.at hO h1 (i := s) (j := s + (j - mid)) has (by omega) (by omega)
        have k2 := SortedIn.at hO h2 (i := m + (i - s)) (j := e - 1) (by omega) (by omega) (by omega)
        exact hO.ntrans _ _ _ (hO.ntrans _ _ _ k1 (SWO.asym' hO hb)) k2
      · rw [g0 j (.inr (by omega))]
        exact SortedIn.at hO h2 (by omega) (by omega) q4
/-- One, put among those behind it. -/
theorem merge1 {a i b : Nat} {d d1 : Array α} (h2 : SortedIn lt (a + 1) b d) (hai : a + 1 ≤ i) (hib : i ≤ b) (hr : Rot a (a + 1) i d d1) (hlo : i = a + 1 ∨ lt d[i - 1]! d[a]! = true) (hhi : i = b ∨ lt d[i]! d[a]! = false) : SortedIn lt a b d1 := by
  have h1 : SortedIn lt a (a + 1) d := fun p q _ _ _ => by omega
  obtain ⟨k1, k2, k3, k4, -, k6⟩ := cutMerge hO h1 h2 (Nat.le_refl a) (by omega) hai hib (mid := i - 1) (by omega) hr (.inl rfl) (by rcases hlo with h | h; exact .inl h.symm; exact .inr (.inr h))
  refine SortedIn.join k2 (SortedIn.join k3 k4 (fun p q q1 q2 q3 q4 => ?_)) (fun p q q1 q2 q3 q4 => k6 p q q1 q2 q3 q4)
  obtain rfl : p = i - 1 := by omega
  rw [hr.at2 (i - 1) (by omega) (by omega), hr.at0 (by omega) hai q (.inr q3)]
  rw [show a + (i - 1 - (a + (i - (a + 1)))) = a by omega]
  rcases hhi with h | h
  · omega
  · exact hO.ntrans _ _ _ (SortedIn.at hO h2 (i := i) (j := q) (by omega) q3 q4) h
/-- One, put among those ahead of it. -/
theorem merge2 {a i m : Nat} {d d1 : Array α} (h1 : SortedIn lt a m d) (hai : a ≤ i) (him : i ≤ m) (hr : Rot i m (m + 1) d d1) (hlo : i = a ∨ lt d[m]! d[i - 1]! = false) (hhi : i = m ∨ lt d[m]! d[i]! = true) : SortedIn lt a (m + 1) d1 := by
  have h2 : SortedIn lt m (m + 1) d := fun p q _ _ _ => by omega
  obtain ⟨k1, k2, k3, k4, -, k6⟩ := cutMerge hO h1 h2 hai him (Nat.le_succ m) (Nat.le_refl _) (mid := i + 1) (by omega) hr (.inr (.inl rfl)) (by rcases hhi with h | h; exact .inr (.inl h); exact .inr (.inr (by simpa using h)))
  refine SortedIn.join (SortedIn.join k1 k2 (fun p q q1 q2 q3 q4 => ?_)) k3 (fun p q q1 q2 q3 q4 => k6 p q q1 q2 q3 q4)
  obtain rfl : q = i := by omega
  rw [hr.at1 (by omega) q (by omega) (by omega), hr.at0 him (by omega) p (.inl q2)]
  rw [show m + (q - q) = m by omega]
  rcases hlo with h | h
  · omega
  · exact hO.ntrans _ _ _ h (SortedIn.at hO h1 (i := p) (j := q - 1) q1 (by omega) (by omega))
/-- Both halves are sorted: so is all. -/
theorem mergeEnd {a mid b : Nat} {d1 d2 d3 : Array α} (ham : a ≤ mid) (hmb : mid ≤ b) (hb : b ≤ d1.size) (hc : ∀ i j, a ≤ i → i < mid → mid ≤ j → j < b → lt d1[j]! d1[i]! = false) (p1 : PermIn a mid d1 d2) (s2 : SortedIn lt a mid d2) (p2 : PermIn mid b d2 d3) (s3 : SortedIn lt mid b d3) :
    PermIn a b d1 d3 ∧ SortedIn lt a b d3 := by
  have hirr := hO.irrefl
  have hz2 : d2.size = d1.size := p1.1
  have hc2 : ∀ j, mid ≤ j → j < b → ∀ i, a ≤ i → i < mid → lt d2[j]! d2[i]! = false := by
    intro j q3 q4
    have h := permIn_all d1 d2 a mid (fun x => lt d1[j]! x = false) (by omega) p1 (fun i q1 q2 => hc i j q1 q2 q3 q4)
    intro i q1 q2
    rw [p1.2.1 j (.inr q3)]
    exact h i q1 q2
  have hc3 : ∀ i, a ≤ i → i < mid → ∀ j, mid ≤ j → j < b → lt d3[j]! d3[i]! = false := by
    intro i q1 q2
    have h := permIn_all d2 d3 mid b (fun x => lt x d2[i]! = false) (by omega) p2 (fun j q3 q4 => hc2 j q3 q4 i q1 q2)
    intro j q3 q4
    rw [p2.2.1 i (.inl q2)]
    exact h j q3 q4
  refine ⟨permIn_trans _ _ _ _ _ (permIn_mono _ _ _ _ _ _ (Nat.le_refl _) hmb hb p1) (permIn_mono _ _ _ _ _ _ ham (Nat.le_refl _) (by omega) p2), SortedIn.join (fun i j q1 q2 q3 => ?_) s3 (fun i j q1 q2 q3 q4 => hc3 i q1 q2 j q3 q4)⟩
  rw [p2.2.1 i (.inl (by omega)), p2.2.1 j (.inl q3)]
  exact s2 i j q1 q2 q3
end
end
end Go.Proofs.YtmconajkgjfplaaGreat
end

/- The library's exchange of two ranges, and its turn of two neighbours, at rows' headers. -/
section
set_option linter.unusedVariables false
set_option linter.unusedSimpArgs false
namespace Go.Proofs.YtmconajkgjfplaaGreat
open Go.RowKit Go.Sort Go.Shelf
set_option linter.unusedVariables false
set_option linter.unusedSimpArgs false
variable {α : Type} [Inhabited α]

set_option maxHeartbeats 16000000 in
set_option maxRecDepth 1000000 in
theorem swapRange_s (enc : α → Value) (blk off cap a b n : Nat) (d0 d : Array α) (w0 w : World) (fv : Value) (R : Go.Proofs.Row1 enc w0 blk off d0) (hs : d0.size = d.size) (S : SW enc w0 blk off d w) (ha : a + n ≤ d.size) (hb : b + n ≤ d.size) (hsz : d.size < 4611686018427387904) :
    Calls Tryz.prog 121 #[.slice (some ⟨blk, off, none⟩) d.size cap, .int .i64 a, .int .i64 b, .int .i64 n, fv] w fun e w' => e = .returned (.tuple #[]) ∧ SW enc w0 blk off (swapR d a b n) w' := by
  have mixed : Tryz.prog.follows .mixedOrders = true := by kernel_rfl
  have hcl0 := R.hO.cells
  simp only [Value.cells] at hcl0
  have hst := R.hO.store Tryz.prog
  have S0 : Aside (SW enc w0 blk off d w) := S
  clear S
  go_enter Tryz.func121, Tryz.ntmps121
  go_wp2
  go_loopw [10] (fun t10 wr => ∃ i : Nat, i ≤ n ∧ t10 = .int .i64 i ∧ Aside (SW enc w0 blk off (swapR d a b i) wr)) (fun t10 _ => n - (intOf t10).toNat)
  case atStart => exact ⟨0, Nat.zero_le _, rfl, S0⟩
  case round =>
    clear S0
    obtain ⟨i, hi, rfl, S1⟩ := hrel
    by_cases hlt : i < n
    · have hltz : (i : Int) < (n : Int) := by omega
      have hsd : (swapR d a b i).size = d.size := swapR_size d a b i
      have HSD : Hid ((swapR d a b i).size = d.size) := hsd
      obtain ⟨iN, hiN⟩ : ∃ q, q = a + i := ⟨_, rfl⟩
      obtain ⟨jN, hjN⟩ : ∃ q, q = b + i := ⟨_, rfl⟩
      have ea : ((a : Int) + (i : Int)).toNat = iN := by omega
      have pa : (0 : Int) ≤ (a : Int) + (i : Int) := by omega
      have ba : (a : Int) + (i : Int) < (d.size : Int) := by omega
      have ra : IntKind.i64.wrap ((a : Int) + (i : Int)) = (a : Int) + (i : Int) := by rw [IntKind.wrap_i64]; omega
      have eb : ((b : Int) + (i : Int)).toNat = jN := by omega
      have pb : (0 : Int) ≤ (b : Int) + (i : Int) := by omega
      have bb : (b : Int) + (i : Int) < (d.size : Int) := by omega
      have rb : IntKind.i64.wrap ((b : Int) + (i : Int)) = (b : Int) + (i : Int) := by rw [IntKind.wrap_i64]; omega
      obtain ⟨dk, hdk⟩ : ∃ q, q = swapR d a b i := ⟨_, rfl⟩
      have HN : Hid (swapR d a b (i + 1) = swp dk (a + i) (b + i)) := by rw [hdk]; exact rfl
      rw [← hdk] at S1 hsd
      clear hdk HSD
      obtain ⟨x1, hx1⟩ : ∃ x, x = dk[a + i]! := ⟨_, rfl⟩
      obtain ⟨y1, hy1⟩ : ∃ x, x = dk[b + i]! := ⟨_, rfl⟩
      have S3 : Aside (SW enc w0 blk off (swp dk (a + i) (b + i)) ((wr.setCell ⟨blk, off + iN, none⟩ (enc y1)).setCell ⟨blk, off + jN, none⟩ (enc x1)).drew) := by rw [hiN, hjN, hx1, hy1]; exact S1.out.swapped R (a + i) (b + i) (by omega) (by omega)
      have c1a := S1.out.c1 R (by omega) (a + i) (by omega)
      have c1b := S1.out.c1 R (by omega) (b + i) (by omega)
      have f1a := S1.out.f1 R (by omega) (a + i) (by omega)
      have f1b := S1.out.f1 R (by omega) (b + i) (by omega)
      obtain ⟨u1, c1c⟩ := S1.out.c2 R (by omega) (a + i) (b + i) (by omega) (by omega) (enc y1)
      rw [← hjN, ← hiN] at c1c
      rw [← hx1, ← hiN] at c1a
      rw [← hy1, ← hjN] at c1b
      rw [← hiN] at f1a
      rw [← hjN] at f1b
      clear S1 hx1 hy1 hiN hjN hsd
      go_wp2_with fail
      go_big_region_o
      clear c1a c1b c1c f1a f1b
      generalize ((wr.setCell ⟨blk, off + iN, none⟩ (enc y1)).setCell ⟨blk, off + jN, none⟩ (enc x1)).drew = w3 at S3 ⊢
      clear ea eb
      go_wp2_with fail
      go_roundw
      case rel => exact ⟨i + 1, by omega, by go_num, by rw [HN.out]; exact S3⟩
      case measure => simp [intOf]; omega
    · obtain rfl : i = n := by omega
      go_wp2_with fail
      go_end0
      exact ⟨rfl, S1⟩
/-- What the turn of two neighbours leaves. -/
def RotPost (enc : α → Value) (w0 : World) (blk off a m b : Nat) (d : Array α) (e : Ending) (w' : World) : Prop := e = .returned (.tuple #[]) ∧ ∃ d', PermIn a b d d' ∧ Rot a m b d d' ∧ SW enc w0 blk off d' w'
set_option maxHeartbeats 16000000 in
set_option maxRecDepth 1000000 in
theorem rotate_s (enc : α → Value) (blk off cap a m b : Nat) (d0 d : Array α) (w0 w : World) (fv : Value) (R : Go.Proofs.Row1 enc w0 blk off d0) (hs : d0.size = d.size) (S : SW enc w0 blk off d w) (ham : a < m) (hmb : m < b) (hb : b ≤ d.size) (hsz : d.size < 4611686018427387904) :
    Calls Tryz.prog 107 #[.slice (some ⟨blk, off, none⟩) d.size cap, .int .i64 a, .int .i64 m, .int .i64 b, fv] w (RotPost enc w0 blk off a m b d) := by
  have S0 : Aside (SW enc w0 blk off d w) := S
  have HR := Lib.hid R
  clear S R
  obtain ⟨i0, hi0⟩ : ∃ i, i = m - a := ⟨_, rfl⟩
  obtain ⟨j0, hj0⟩ : ∃ j, j = b - m := ⟨_, rfl⟩
  have e1 : (m : Int) - (a : Int) = (i0 : Int) := by omega
  have e2 : (b : Int) - (m : Int) = (j0 : Int) := by omega
  have hx1 : 1 ≤ i0 ∧ i0 ≤ m - a ∧ 1 ≤ j0 ∧ j0 ≤ b - m := by omega
  have Hst : Hid (∀ d', Rot (m - i0) m (m + j0) d d' → Rot a m b d d') := Lib.hid (fun d' h => by rwa [show m - i0 = a by omega, show m + j0 = b by omega] at h)
  have hszI : (d.size : Int) < 4611686018427387904 := by omega
  clear hi0 hj0
  go_enter Tryz.func107, Tryz.ntmps107
  go_wp2_with fail
  clear e1 e2
  go_loopw [10, 11] (fun t10 t11 wr => ∃ (i j : Nat) (dk : Array α), t10 = .int .i64 i ∧ t11 = .int .i64 j ∧ (1 ≤ i ∧ i ≤ m - a ∧ 1 ≤ j ∧ j ≤ b - m) ∧ PermIn a b d dk ∧ Hid (∀ d', Rot (m - i) m (m + j) dk d' → Rot a m b d d') ∧ Aside (SW enc w0 blk off dk wr)) (fun t10 t11 _ => (intOf t10).toNat + (intOf t11).toNat)
  case atStart => exact ⟨i0, j0, d, rfl, rfl, hx1, permIn_refl _ _ _, Hst, S0⟩
  case round =>
    clear S0 Hst hx1
    obtain ⟨i, j, dk, rfl, rfl, hx, hP, Hrot, S1⟩ := hrel
    obtain ⟨h1, h2, h3, h4⟩ := hx
    have HP := Lib.hid hP
    have hdk : dk.size = d.size := hP.1
    have Hdk := Lib.hid hdk
    clear hP
    obtain ⟨p, hp⟩ : ∃ p, p = m - i := ⟨_, rfl⟩
    have e1 : (m : Int) - (i : Int) = (p : Int) := by omega
    have hpm : p ≤ m := by omega
    have Hp := Lib.hid hp
    by_cases hgt : j < i
    · have g1 : ((i : Int) != (j : Int)) = true := by simp; omega
      have g2 : (j : Int) < (i : Int) := by omega
      obtain ⟨q, hq⟩ : ∃ q, q = i - j := ⟨_, rfl⟩
      have e2 : (i : Int) - (j : Int) = (q : Int) := by omega
      have Hq := Lib.hid hq
      have hsw := swapRange_s enc blk off cap p m j d0 dk w0 wr fv HR.out (by omega) S1.out (by omega) (by omega) (by omega)
      rw [hdk] at hsw
      have Hsw := Lib.hid hsw
      clear hp hq hdk hsw
      go_wp2_with fail
      refine Calls.mono Hsw.out ?_
      rintro e w' ⟨rfl, hS⟩
      have S2 : Aside _ := hS
      clear hS S1 Hsw
      go_wp2_with fail
      go_roundw
      case rel => exact ⟨q, j, swapR dk p m j, rfl, rfl, by have := Hq.out; omega, permIn_trans _ _ _ _ _ HP.out (swapR_perm _ _ _ _ _ (by have := Hp.out; omega) (by omega) _ (by have := Hp.out; omega) (by omega) (by have := Hdk.out; omega)), Lib.hid (fun d' h => Hrot.out d' (Rot.left (by omega) hgt (by have := Hdk.out; omega) (by rw [← Hq.out, ← Hp.out]; exact h))), S2⟩
      case measure => have := Hq.out; simp [intOf]; omega
    · by_cases hlt : i < j
      · have g1 : ((i : Int) != (j : Int)) = true := by simp; omega
        have g2 : ¬ (j : Int) < (i : Int) := by omega
        obtain ⟨q, hq⟩ : ∃ q, q = j - i := ⟨_, rfl⟩
        have e2 : (j : Int) - (i : Int) = (q : Int) := by omega
        obtain ⟨r, hr⟩ : ∃ r, r = m + j - i := ⟨_, rfl⟩
        have e3 : (m : Int) + (j : Int) - (i : Int) = (r : Int) := by omega
        have Hq := Lib.hid hq
        have Hr := Lib.hid hr
        have hsw := swapRange_s enc blk off cap p r i d0 dk w0 wr fv HR.out (by omega) S1.out (by omega) (by omega) (by omega)
        rw [hdk] at hsw
        have Hsw := Lib.hid hsw
        clear hp hq hdk hsw hr
        go_wp2_with fail
        refine Calls.mono Hsw.out ?_
        rintro e w' ⟨rfl, hS⟩
        have S2 : Aside _ := hS
        clear hS S1 Hsw
        go_wp2_with fail
        go_roundw
        case rel => exact ⟨i, q, swapR dk p r i, rfl, rfl, by have := Hq.out; omega, permIn_trans _ _ _ _ _ HP.out (swapR_perm _ _ _ _ _ (by have := Hp.out; omega) (by have := Hr.out; omega) _ (by have := Hp.out; omega) (by have := Hr.out; omega) (by have := Hdk.out; omega)), Lib.hid (fun d' h => Hrot.out d' (Rot.right (by omega) hlt (by have := Hdk.out; omega) (by rw [← Hp.out] at h; rw [← Hq.out, ← Hp.out, ← Hr.out]; exact h))), S2⟩
        case measure => have := Hq.out; simp [intOf]; omega
      · obtain rfl : i = j := by omega
        have g1 : ((i : Int) != (i : Int)) = false := by simp
        have hsw := swapRange_s enc blk off cap p m i d0 dk w0 wr fv HR.out (by omega) S1.out (by omega) (by omega) (by omega)
        rw [hdk] at hsw
        have Hsw := Lib.hid hsw
        clear hp hdk hsw
        go_wp2_with fail
        refine Calls.mono Hsw.out ?_
        rintro e w' ⟨rfl, hS⟩
        have S2 : Aside _ := hS
        clear hS S1 Hsw
        have hpost : RotPost enc w0 blk off a m b d (.returned (.tuple #[])) w' := ⟨rfl, swapR dk p m i, permIn_trans _ _ _ _ _ HP.out (swapR_perm _ _ _ _ _ (by have := Hp.out; omega) (by omega) _ (by have := Hp.out; omega) (by omega) (by have := Hdk.out; omega)), Hrot.out _ (by
          have h := Rot.last (a := m - i) (m := m) (b := m + i) (d := dk) (by omega) (by omega) (by have := Hdk.out; omega) (by omega)
          rw [show m - (m - i) = i by omega, ← Hp.out] at h
          rw [← Hp.out]
          exact h), S2.out⟩
        have Hpost := Lib.hid hpost
        clear hpost
        go_wp2_with fail
        go_end0
        exact Hpost.out
end Go.Proofs.YtmconajkgjfplaaGreat
end

/- Rows in memory: where each header stands. -/
section
set_option linter.unusedVariables false
set_option linter.unusedSimpArgs false
namespace Go.Proofs.YtmconajkgjfplaaGreat
open Go.RowKit
set_option linter.unusedVariables false
set_option linter.unusedSimpArgs false

/-- Rows in memory that are not none: where each one's header stands. -/
theorem Rws.at {lo hi c : Nat} {w : World} {p : Option Addr} {l : List (List V)} (h : Rws lo hi w (.slice p l.length c) l) (hhi : hi ≤ w.heap.size) (hp : 0 < l.length) :
    ∃ b o, p = some ⟨b, o, none⟩ ∧ b < hi ∧ ∀ j (hj : j < l.length), ∃ q m, (∀ w', Below w.heap.size w w' → w'.cell? ⟨b, o + j, none⟩ = some (.slice q l[j].length m)) ∧ Row1 lo hi w (.slice q l[j].length m) l[j] := by
  obtain ⟨ao', cap', e', -, -, -, hc⟩ := h.form
  injection e' with e1 e2 e3
  subst e1 e3
  obtain ⟨b, o, rfl, h1, h2, hcc⟩ := hc 0 hp
  refine ⟨b, o, rfl, h2, fun j hj => ?_⟩
  obtain ⟨cs, -, hcs, sv, rfl, hr⟩ := hcc j hj
  obtain ⟨q, m, rfl, -, -, -, -⟩ := hr.form
  refine ⟨q, m, fun w' hB => ?_, hr⟩
  have := (hcs.agree (.below hB (Nat.le_refl _)) (Nat.zero_le _) (show b < w.heap.size by omega)).c1
  rw [Nat.mul_one] at this
  exact this
theorem rowsCompareB_any (lo hi lo2 hi2 : Nat) (x y : List V) (vx vy : Value) (w : World) (hx : Row1 lo hi w vx x) (hy : Row1 lo2 hi2 w vy y) (hhi : hi ≤ w.heap.size) (hhi2 : hi2 ≤ w.heap.size) (R : Ending → World → Prop)
    (hR : ∀ w', Below w.heap.size w w' → R (.returned (.int .i64 (cmpR x y))) w') : Calls Tryz.prog 9 #[vx, vy] w R :=
  rowsCompare_any lo hi lo2 hi2 x y vx vy w hx hy hhi hhi2 R (fun w' h => hR w' h.below)
theorem wrapOk {x : Int} (h1 : 0 ≤ x) (h2 : x ≤ 9223372036854775807) : IntKind.i64.wrap x = x := by
  simp [IntKind.wrap, IntKind.bits, IntKind.signed]; omega
end Go.Proofs.YtmconajkgjfplaaGreat
end

/- Places of columns among others; a row's values at places: the program's and the document's. -/
section
set_option linter.unusedVariables false
set_option linter.unusedSimpArgs false
namespace Go.Proofs.YtmconajkgjfplaaGreat
open Go.RowKit
set_option linter.unusedVariables false
set_option linter.unusedSimpArgs false
attribute [local go_sem ↓] Go.wp_at_zero Go.wp_at_succ

def inE (n : Int) : List Value := [.int .i64 n]
abbrev OwnI := Own inE 3 1
abbrev Ints := Sl (flat inE) 1
theorem Ints.loc : Loc (flat inE) := flat_loc _
theorem infoI : (Tryz.prog.info? 3).map (fun i => (i.zero, i.size, i.bytes)) = some (some (.int .i64 0), 1, 8) := by kernel_rfl
theorem OwnI.sl {lo : Nat} {w : World} {v : Value} {xs : List Int} (h : OwnI lo w v xs) : Ints lo w.heap.size w v xs := Sl.ofOwn (fun _ => rfl) h
theorem appI1 {w : World} {lo : Nat} {v : Value} {xs : List Int} (h : OwnI lo w v xs) (x : Int) {n : Nat} (hn : n = w.heap.size) (hb : xs.length ≤ 8000000000000) (hlo : lo ≤ w.heap.size) :
    ∃ v' w', (Builtin.append_ #[58, 58] 58 #[v, .slice (some ⟨n, 0, none⟩) 1 1]).run Tryz.prog (w.alloc (.cells #[.int .i64 x] 3)) = .ok v' w' ∧ OwnI lo w' v' (xs ++ [x]) ∧ Appended w v w' v' := by
  subst hn
  have hB : Below w.heap.size w (w.alloc (.cells (inE x).toArray 3)) := (Below.refl _ _).alloc (Nat.le_refl _) _
  obtain ⟨i0, hi, hz0, hz1, hz2⟩ := info_parts infoI
  have hc := CellsAt.newAt w (inE x) 3 rfl
  have hs : Src Tryz.prog 1 58 (.slice (some ⟨w.heap.size, 0, none⟩) 1 1) [x].length ([x].flatMap inE) (w.alloc (.cells (inE x).toArray 3)) :=
    Src.ofSlice _ Tryz.underlying58 _ _ _ _ (by simp [inE]) (fun j u hu => by rw [Addr.add_lit]; exact hc j u (by simpa using hu)) (fun u hu => by
      rw [List.flatMap_cons, List.flatMap_nil, List.append_nil] at hu
      simp only [inE, List.mem_cons, List.not_mem_nil, or_false] at hu
      subst hu; rfl)
  obtain ⟨v', w', hr, ho, ha⟩ := (Own.kept h hB).app _ _ _ i0 _ 8 Tryz.underlying58 hi hz0 hz1 hz2 rfl hs (by simp only [List.length_cons, List.length_nil]; omega) (by omega) (Nat.le_trans hlo hB.size)
  exact ⟨v', w', hr, ho, (Appended.step v hB).trans ha⟩
/-- Are columns all among others? -/
def withinB (cols of : List S) : Bool := cols.all fun c => decide (0 ≤ placeI of c)
def placesL (cols of : List S) : List Int := cols.map (placeI of)
def pickL (x : List V) (at' : List Int) : List V := at'.map fun k => x.getD k.toNat default
/-- Places that are of a row. -/
def AtOk (n : Nat) (at' : List Int) : Prop := ∀ k ∈ at', 0 ≤ k ∧ k < n
theorem within_no {cols of : List S} {k : Nat} (hk : k < cols.length) (h : placeI of cols[k] < 0) : withinB cols of = false := by
  unfold withinB
  rw [List.all_eq_false]
  exact ⟨_, List.getElem_mem hk, by simp; omega⟩
theorem within_yes {cols of : List S} (h : ∀ k (hk : k < cols.length), 0 ≤ placeI of cols[k]) : withinB cols of = true := by
  unfold withinB
  rw [List.all_eq_true]
  intro c hc
  obtain ⟨k, hk, rfl⟩ := List.getElem_of_mem hc
  simpa using h k hk
theorem within_at {cols of : List S} (h : withinB cols of = true) : ∀ k (hk : k < cols.length), 0 ≤ placeI of cols[k] := by
  unfold withinB at h
  intro k hk
  simpa using List.all_eq_true.1 h _ (List.getElem_mem hk)
theorem places_ok {cols of : List S} (h : withinB cols of = true) : AtOk of.length (placesL cols of) := by
  intro k hk
  obtain ⟨c, hc, rfl⟩ := List.mem_map.1 hk
  unfold withinB at h
  exact ⟨by simpa using List.all_eq_true.1 h c hc, (placeI_lt of c).2⟩
/-- Texts in memory that are not none: where each one stands. -/
theorem Strs.at {lo hi c : Nat} {w : World} {p : Option Addr} {l : List S} (h : Strs lo hi w (.slice p l.length c) l) (hhi : hi ≤ w.heap.size) (hp : 0 < l.length) :
    ∃ b o, p = some ⟨b, o, none⟩ ∧ b < hi ∧ ∀ j (hj : j < l.length), ∀ w', Below w.heap.size w w' → w'.cell? ⟨b, o + j, none⟩ = some (.string ⟨l[j].toArray⟩) := by
  obtain ⟨ao', cap', e', -, -, -, hc⟩ := h.form
  injection e' with e1 e2 e3
  subst e1 e3
  obtain ⟨b, o, rfl, h1, h2, hcc⟩ := hc 0 hp
  refine ⟨b, o, rfl, h2, fun j hj w' hB => ?_⟩
  obtain ⟨cs, -, hcs, rfl⟩ := hcc j hj
  have := (hcs.agree (.below hB (Nat.le_refl _)) (Nat.zero_le _) (show b < w.heap.size by omega)).c1
  rw [Nat.mul_one] at this
  exact this
theorem Ints.at {lo hi c : Nat} {w : World} {p : Option Addr} {l : List Int} (h : Ints lo hi w (.slice p l.length c) l) (hhi : hi ≤ w.heap.size) (hp : 0 < l.length) :
    ∃ b o, p = some ⟨b, o, none⟩ ∧ b < hi ∧ ∀ j (hj : j < l.length), ∀ w', Below w.heap.size w w' → w'.cell? ⟨b, o + j, none⟩ = some (.int .i64 l[j]) := by
  obtain ⟨ao', cap', e', -, -, -, hc⟩ := h.form
  injection e' with e1 e2 e3
  subst e1 e3
  obtain ⟨b, o, rfl, h1, h2, hcc⟩ := hc 0 hp
  refine ⟨b, o, rfl, h2, fun j hj w' hB => ?_⟩
  obtain ⟨cs, -, hcs, rfl⟩ := hcc j hj
  have := (hcs.agree (.below hB (Nat.le_refl _)) (Nat.zero_le _) (show b < w.heap.size by omega)).c1
  rw [Nat.mul_one] at this
  exact this
theorem Row1.at {lo hi c : Nat} {w : World} {p : Option Addr} {l : List V} (h : Row1 lo hi w (.slice p l.length c) l) (hhi : hi ≤ w.heap.size) (hp : 0 < l.length) :
    ∃ b o, p = some ⟨b, o, none⟩ ∧ b < hi ∧ ∀ j (hj : j < l.length), ∀ w', Below w.heap.size w w' → CellsAt w' b (o + j * 3) [.int .i64 l[j].kind, .int .i64 l[j].n, .string ⟨l[j].s.toArray⟩] := by
  obtain ⟨ao', cap', e', -, -, -, hc⟩ := h.form
  injection e' with e1 e2 e3
  subst e1 e3
  obtain ⟨b, o, rfl, h1, h2, hcc⟩ := hc 0 hp
  refine ⟨b, o, rfl, h2, fun j hj w' hB => ?_⟩
  obtain ⟨cs, -, hcs, rfl⟩ := hcc j hj
  exact hcs.agree (.below hB (Nat.le_refl _)) (Nat.zero_le _) (show b < w.heap.size by omega)
set_option maxRecDepth 100000 in
set_option maxHeartbeats 2000000 in
theorem places_any (lo hi lo2 hi2 : Nat) (cols among : List S) (vo va : Value) (w : World) (ho : Strs lo hi w vo cols) (hhi : hi ≤ w.heap.size) (ha : Strs lo2 hi2 w va among) (hhi2 : hi2 ≤ w.heap.size) (hlen : cols.length ≤ 1000000000000) (R : Ending → World → Prop)
    (hno : withinB cols among = false → ∀ w', Below w.heap.size w w' → R (.returned (.tuple #[.slice none 0 0, .bool false])) w')
    (hyes : withinB cols among = true → ∀ w' v', Below w.heap.size w w' → OwnI w.heap.size w' v' (placesL cols among) → R (.returned (.tuple #[v', .bool true])) w') : Calls Tryz.prog 24 #[vo, va] w R := by
  have Hno := Lib.hid hno
  have Hyes := Lib.hid hyes
  have Ho := Lib.hid ho
  have Ha := Lib.hid ha
  obtain ⟨ao, co, rfl, -, -, -, -⟩ := ho.form
  obtain ⟨aa, ca, rfl, -, -, -, -⟩ := ha.form
  have hol := ho.len
  clear hno hyes ho ha
  go_enter Tryz.func24, Tryz.ntmps24
  go_wp2_with fail
  go_loopw [6, 12] (fun t6 t12 wr => ∃ (k : Nat), k ≤ cols.length ∧ t12 = .int .i64 k ∧ OwnI w.heap.size wr t6 (placesL (cols.take k) among) ∧ (∀ i (hi : i < cols.length), i < k → 0 ≤ placeI among cols[i]) ∧ Below w.heap.size w wr) (fun _ t12 _ => cols.length - (intOf t12).toNat)
  case atStart => exact ⟨0, Nat.zero_le _, rfl, Own.nil _ _ _ _ _, fun i _ h => absurd h (Nat.not_lt_zero _), Below.refl _ _⟩
  case round =>
    obtain ⟨k, hk, rfl, hown, hpl, hB⟩ := hrel
    obtain ⟨wo, ewo⟩ : ∃ x, x = wr := ⟨_, rfl⟩
    subst ewo
    have Hown := Lib.hid hown
    have Hpl := Lib.hid hpl
    have HB := Lib.hid hB
    have hz := hB.size
    have kk0 : (0 : Int) ≤ (k : Int) := by omega
    obtain ⟨po, cap, hpo⟩ := Own.slice hown
    clear hown hpl hB
    have Hkl : Hid ((placesL (cols.take k) among).length = k) := Lib.hid <| by unfold placesL; rw [List.length_map, List.length_take]; omega
    by_cases hlt : k < cols.length
    · have kkl : (k : Int) < (cols.length : Int) := by omega
      obtain ⟨b, o, rfl, hb, hat⟩ := Strs.at (Sl.below Ho.out Strs.loc HB.out hhi) (by omega) (by omega)
      have g0 := hat k hlt wo (Below.refl _ _)
      have Hst : Hid (placesL (cols.take (k + 1)) among = placesL (cols.take k) among ++ [placeI among cols[k]]) := Lib.hid (by unfold placesL; rw [List.take_succ_eq_append_getElem hlt, List.map_append]; rfl)
      have hp1 := placeI_lt among cols[k]
      have ham := (Sl.below Ha.out Strs.loc HB.out hhi2).len
      by_cases hneg : placeI among cols[k] < 0
      · have hr := Hno.out (within_no hlt hneg) wo HB.out
        clear hat Hst
        generalize cols[k] = c at *
        subst hpo
        go_wp2_with fail
        refine Index_any lo2 hi2 among c _ wo (Sl.below Ha.out Strs.loc HB.out hhi2) _ ?_
        generalize placeI among c = pc at *
        go_wp2_with fail
        first | exact hr | exact fin hr rfl
      · have hnn : ∀ i (hi : i < cols.length), i < k + 1 → 0 ≤ placeI among cols[i] := fun i hi h => by
          by_cases e : i = k
          · subst e; omega
          · exact Hpl.out i hi (by omega)
        have Hnn := Lib.hid hnn
        obtain ⟨v3, w3, hr3, ho3, ha3⟩ := appI1 Hown.out (placeI among cols[k]) rfl (by rw [Hkl.out]; omega) (by omega)
        have HO3 := Lib.hid ho3
        have HB3 := Lib.hid (HB.out.trans (ha3.below (B := w.heap.size) (by omega) (fun q e => (Own.lt Hown.out q e).1)))
        clear hat hnn ho3 ha3
        generalize cols[k] = c at *
        subst hpo
        go_wp2_with fail
        refine Index_any lo2 hi2 among c _ wo (Sl.below Ha.out Strs.loc HB.out hhi2) _ ?_
        generalize placeI among c = pc at *
        go_wp2_with (at_builtin; refine AtApp.of ?_)
        refine AtApp.go hr3 rfl rfl rfl rfl ?_
        go_wp2_with fail
        go_roundw
        case rel => exact ⟨k + 1, by omega, by go_num, by rw [Hst.out]; exact HO3.out, Hnn.out, HB3.out⟩
        case measure => simp [intOf]; omega
    · obtain rfl : k = cols.length := by omega
      have hO := Hown.out
      rw [List.take_length] at hO
      have hr := Hyes.out (within_yes fun i hi => Hpl.out i hi hi) wo _ HB.out hO
      clear hO
      subst hpo
      go_wp2_with fail
      first | exact hr | exact fin hr rfl
set_option maxRecDepth 100000 in
set_option maxHeartbeats 2000000 in
theorem pick_any (lo hi lo2 hi2 : Nat) (x : List V) (at' : List Int) (vx va : Value) (w : World) (hx : Row1 lo hi w vx x) (hhi : hi ≤ w.heap.size) (ha : Ints lo2 hi2 w va at') (hhi2 : hi2 ≤ w.heap.size) (hok : AtOk x.length at') (hlen : at'.length ≤ 1000000000000) (R : Ending → World → Prop)
    (hR : ∀ w' v', Below w.heap.size w w' → OwnV w.heap.size w' v' (pickL x at') → R (.returned v') w') : Calls Tryz.prog 30 #[vx, va] w R := by
  have HR := Lib.hid hR
  have Hx := Lib.hid hx
  have Ha := Lib.hid ha
  have Hok := Lib.hid hok
  obtain ⟨ax, cx, rfl, -, -, -, -⟩ := hx.form
  obtain ⟨aa, ca, rfl, -, -, -, -⟩ := ha.form
  have hxl := hx.len
  clear hR hx ha hok
  go_enter Tryz.func30, Tryz.ntmps30
  go_wp2_with fail
  go_loopw [5, 10] (fun t5 t10 wr => ∃ (k : Nat), k ≤ at'.length ∧ t10 = .int .i64 k ∧ OwnV w.heap.size wr t5 (pickL x (at'.take k)) ∧ Below w.heap.size w wr) (fun _ t10 _ => at'.length - (intOf t10).toNat)
  case atStart => exact ⟨0, Nat.zero_le _, rfl, Own.nil _ _ _ _ _, Below.refl _ _⟩
  case round =>
    obtain ⟨k, hk, rfl, hown, hB⟩ := hrel
    obtain ⟨wo, ewo⟩ : ∃ x, x = wr := ⟨_, rfl⟩
    subst ewo
    have Hown := Lib.hid hown
    have HB := Lib.hid hB
    have hz := hB.size
    have kk0 : (0 : Int) ≤ (k : Int) := by omega
    obtain ⟨po, cap, hpo⟩ := Own.slice hown
    clear hown hB
    have Hkl : Hid ((pickL x (at'.take k)).length = k) := Lib.hid <| by unfold pickL; rw [List.length_map, List.length_take]; omega
    by_cases hlt : k < at'.length
    · have kkl : (k : Int) < (at'.length : Int) := by omega
      obtain ⟨b, o, rfl, hb, hat⟩ := Ints.at (Sl.below Ha.out Ints.loc HB.out hhi2) (by omega) (by omega)
      have g0 := hat k hlt wo (Below.refl _ _)
      obtain ⟨q, hq⟩ : ∃ q : Nat, at'[k] = q := ⟨at'[k].toNat, by have := Hok.out _ (List.getElem_mem hlt); omega⟩
      have hqx : q < x.length := by have := (Hok.out _ (List.getElem_mem hlt)).2; omega
      have Hst : Hid (pickL x (at'.take (k + 1)) = pickL x (at'.take k) ++ [x[q]]) := Lib.hid (by
        unfold pickL
        rw [List.take_succ_eq_append_getElem hlt, List.map_append, List.map_cons, List.map_nil, hq, Int.toNat_natCast]
        congr 2
        exact getDS x _ q hqx)
      obtain ⟨b2, o2, rfl, hb2, hat2⟩ := Row1.at (Sl.below Hx.out Row1.loc HB.out hhi) (by omega) (by omega)
      obtain ⟨z0, z1, z2⟩ := (hat2 q hqx wo (Below.refl _ _)).c3
      have qq0 : (0 : Int) ≤ (q : Int) := by omega
      have qql : (q : Int) < (x.length : Int) := by omega
      rw [hq] at g0
      clear hq hat hat2
      generalize x[q] = y at *
      obtain ⟨v3, w3, hr3, ho3, ha3⟩ := appV1 Hown.out y rfl (by rw [Hkl.out]; omega) (by omega)
      have HO3 := Lib.hid ho3
      have HB3 := Lib.hid (HB.out.trans (ha3.below (B := w.heap.size) (by omega) (fun q e => (Own.lt Hown.out q e).1)))
      clear ho3 ha3
      subst hpo
      go_wp2_with (at_builtin; refine AtApp.of ?_)
      refine AtApp.go hr3 rfl rfl rfl rfl ?_
      go_wp2_with fail
      go_roundw
      case rel => exact ⟨k + 1, by omega, by go_num, by rw [Hst.out]; exact HO3.out, HB3.out⟩
      case measure => simp [intOf]; omega
    · obtain rfl : k = at'.length := by omega
      have hO := Hown.out
      rw [List.take_length] at hO
      have hr := HR.out wo _ HB.out hO
      clear hO
      subst hpo
      go_wp2_with fail
      first | exact hr | exact fin hr rfl
end Go.Proofs.YtmconajkgjfplaaGreat
end

/- May a relation be? -/
section
set_option linter.unusedVariables false
set_option linter.unusedSimpArgs false
namespace Go.Proofs.YtmconajkgjfplaaGreat
open Go.RowKit
set_option linter.unusedVariables false
set_option linter.unusedSimpArgs false

/-- A row of a relation may stand where it stands. -/
def mayAt (cols : List S) (l : List (List V)) (i : Nat) : Bool := (l.getD i []).length == cols.length && (i == 0 || decide (cmpR (l.getD (i - 1) []) (l.getD i []) < 0))
def mayRel (cols : List S) (l : List (List V)) : Bool := onceB cols && decide (l.length ≤ 100000) && (List.range l.length).all (mayAt cols l)
theorem mayRel_yes {cols : List S} {l : List (List V)} (h1 : onceB cols = true) (h2 : l.length ≤ 100000) (h3 : ∀ i, i < l.length → mayAt cols l i = true) : mayRel cols l = true := by
  unfold mayRel
  rw [h1, decide_eq_true h2, Bool.true_and, Bool.true_and, List.all_eq_true]
  exact fun i hi => h3 i (List.mem_range.1 hi)
theorem mayRel_no {cols : List S} {l : List (List V)} {i : Nat} (hi : i < l.length) (h : mayAt cols l i = false) : mayRel cols l = false := by
  unfold mayRel
  rw [show (List.range l.length).all (mayAt cols l) = false by rw [List.all_eq_false]; exact ⟨i, List.mem_range.2 hi, by simp [h]⟩]
  simp
set_option maxRecDepth 100000 in
set_option maxHeartbeats 4000000 in
theorem May_any (lo hi lc hc : Nat) (cols : List S) (ac : Option Addr) (cc : Nat) (l : List (List V)) (lv : Value) (w : World) (hcols : Strs lc hc w (.slice ac cols.length cc) cols) (hhc : hc ≤ w.heap.size) (hv : Rws lo hi w lv l) (hhi : hi ≤ w.heap.size) (R : Ending → World → Prop)
    (hR : ∀ w', Below w.heap.size w w' → R (.returned (.bool (mayRel cols l))) w') : Calls Tryz.prog 25 #[.agg #[.slice ac cols.length cc, lv]] w R := by
  have HR := Lib.hid hR
  have Hv := Lib.hid hv
  have Hc := Lib.hid hcols
  obtain ⟨av, cv2, rfl, -, -, -, -⟩ := hv.form
  have hll := hv.len
  clear hR hv hcols
  go_enter Tryz.func25, Tryz.ntmps25
  go_upto_region 1 with fail
  have hBa := (Below.refl w.heap.size w).alloc (Nat.le_refl _) (.cells #[.slice ac cols.length cc, .slice av l.length cv2] 25)
  have hba := Blk.new w [.slice ac cols.length cc, .slice av l.length cv2] 25 rfl
  generalize w.alloc (.cells #[.slice ac cols.length cc, .slice av l.length cv2] 25) = w1 at *
  have HBa := Lib.hid hBa
  have Hba := Lib.hid hba
  have hz1 := hBa.size
  have hbl := hba.lt
  obtain ⟨d0, d1⟩ := hba.cells.c2
  simp only [Nat.zero_add] at d1
  clear hBa hba
  go_wp2_with fail
  refine once_any lc hc cols _ _ (Sl.below Hc.out Strs.loc HBa.out hhc) _ ?_
  cases ho : onceB cols
  · have hr := HR.out w1 HBa.out
    rw [show mayRel cols l = false by unfold mayRel; rw [ho]; rfl] at hr
    clear ho
    go_wp2_with fail
    first | exact hr | exact fin hr rfl
  have Ho := Lib.hid ho
  clear ho
  by_cases hgt : 100000 < l.length
  · have hr := HR.out w1 HBa.out
    rw [show mayRel cols l = false by unfold mayRel; rw [decide_eq_false (by omega)]; simp] at hr
    have c1 : (100000 : Int) < (l.length : Int) := by omega
    go_wp2_with fail
    first | exact hr | exact fin hr rfl
  have c1 : ¬ (100000 : Int) < (l.length : Int) := by omega
  go_wp2_with fail
  go_loopw [18] (fun t18 wr => ∃ k : Nat, k ≤ l.length ∧ t18 = .int .i64 k ∧ (∀ i, i < k → mayAt cols l i = true) ∧ Below w1.heap.size w1 wr) (fun t18 _ => l.length - (intOf t18).toNat)
  case atStart => exact ⟨0, Nat.zero_le _, rfl, fun i hi => absurd hi (Nat.not_lt_zero _), Below.refl _ _⟩
  case round =>
    obtain ⟨k, hk, rfl, hok, hB⟩ := hrel
    obtain ⟨wo, ewo⟩ : ∃ x, x = wr := ⟨_, rfl⟩
    subst ewo
    clear d0 d1
    have Hok := Lib.hid hok
    have HB := Lib.hid hB
    have HBw := Lib.hid (HBa.out.trans (hB.mono hz1))
    have hz := HBw.out.size
    have kk0 : (0 : Int) ≤ (k : Int) := by omega
    obtain ⟨d0, d1⟩ := (Hba.out.below hB hbl).cells.c2
    simp only [Nat.zero_add] at d1
    clear hB hok
    by_cases hlt : k < l.length
    · have kkl : (k : Int) < (l.length : Int) := by omega
      have Hvl := Lib.hid (Sl.below Hv.out rowE_loc HBw.out hhi)
      obtain ⟨b4, o4, rfl, hb4, hrow4⟩ := Rws.at Hvl.out (by omega) (by omega)
      obtain ⟨p2, c2, g2, r2⟩ := hrow4 k hlt
      have G2 := g2 wo (Below.refl _ _)
      have R2 := Lib.hid r2
      have hxl := r2.len
      by_cases hne : l[k].length = cols.length
      · have He : Hid (l[k].length = cols.length) := Lib.hid hne
        have c3 : ((l[k].length : Int) != (cols.length : Int)) = false := by simp; omega
        by_cases hk0 : k = 0
        · have Hk0 : Hid (k = 0) := Lib.hid hk0
          have hnx : Hid (∀ i, i < k + 1 → mayAt cols l i = true) := Lib.hid (fun i hi => by
            obtain rfl : i = 0 := by omega
            unfold mayAt
            rw [getDS l _ 0 (by omega)]
            have := He.out
            subst hk0
            simp [this])
          have c4 : ¬ (0 : Int) < (k : Int) := by omega
          clear hrow4 g2 r2 hne hk0
          generalize l[k] = xb at *
          go_wp2_with fail
          go_roundw
          case rel => exact ⟨k + 1, by omega, by go_num, hnx.out, HB.out⟩
          case measure => simp [intOf]; omega
        · obtain ⟨j, ej⟩ : ∃ j, j = k - 1 := ⟨_, rfl⟩
          have hjl : j < l.length := by omega
          have hkj : (k : Int) - 1 = (j : Int) := by omega
          have jj0 : (0 : Int) ≤ (j : Int) := by omega
          have jjl : (j : Int) < (l.length : Int) := by omega
          have c4 : (0 : Int) < (k : Int) := by omega
          obtain ⟨p1, c1', g1, r1⟩ := hrow4 j hjl
          have G1 := g1 wo (Below.refl _ _)
          have R1 := Lib.hid r1
          have Hat : Hid (mayAt cols l k = decide (cmpR l[j] l[k] < 0)) := Lib.hid (by
            unfold mayAt
            rw [getDS l _ k hlt, getDS l _ (k - 1) (by omega), He.out]
            subst ej
            simp [hk0])
          have Hno : Hid (mayAt cols l k = false → mayRel cols l = false) := Lib.hid (mayRel_no hlt)
          have Hnx : Hid (mayAt cols l k = true → ∀ i, i < k + 1 → mayAt cols l i = true) := Lib.hid (fun h i hi => by
            by_cases e : i = k
            · rw [e]; exact h
            · exact Hok.out i (by omega))
          clear hrow4 g2 r2 g1 r1 hne ej hk0
          generalize l[k] = xb at *
          generalize l[j] = xa at *
          go_wp2_with fail
          refine rowsCompareB_any lo hi lo hi xa xb _ _ wo R1.out R2.out (by omega) (by omega) _ (fun w5 hB5 => ?_)
          have HB5 := Lib.hid (HB.out.trans (hB5.mono (by have := HB.out.size; omega)))
          have HB5w := Lib.hid (HBw.out.trans (hB5.mono hz))
          clear hB5
          by_cases hc0 : cmpR xa xb < 0
          · have hnx := Lib.hid (Hnx.out (by rw [Hat.out]; exact decide_eq_true hc0))
            have c5 : ¬ (0 : Int) ≤ cmpR xa xb := by omega
            clear hc0 Hno Hnx
            generalize cmpR xa xb = cv at *
            go_wp2_with fail
            go_roundw
            case rel => exact ⟨k + 1, by omega, by go_num, hnx.out, HB5.out⟩
            case measure => simp [intOf]; omega
          · have hr := HR.out w5 HB5w.out
            rw [Hno.out (by rw [Hat.out]; exact decide_eq_false hc0)] at hr
            have c5 : (0 : Int) ≤ cmpR xa xb := by omega
            clear hc0 Hno Hnx
            generalize cmpR xa xb = cv at *
            go_wp2_with fail
            first | exact hr | exact fin hr rfl
      · have hr := HR.out wo HBw.out
        rw [mayRel_no hlt (by unfold mayAt; rw [getDS l _ k hlt]; simp [hne])] at hr
        have c3 : ((l[k].length : Int) != (cols.length : Int)) = true := by simp; omega
        clear hrow4 g2 r2 hne
        generalize l[k] = xb at *
        go_wp2_with fail
        first | exact hr | exact fin hr rfl
    · have llt : ¬ (k : Int) < (l.length : Int) := by omega
      have hr := HR.out wo HBw.out
      rw [mayRel_yes Ho.out (by omega) (fun i hi => Hok.out i (by omega))] at hr
      go_wp2_with fail
      first | exact hr | exact fin hr rfl
end Go.Proofs.YtmconajkgjfplaaGreat
end

/- The relation of rows: made. -/
section
set_option linter.unusedVariables false
set_option linter.unusedSimpArgs false
namespace Go.Proofs.YtmconajkgjfplaaGreat
open Go.RowKit
set_option linter.unusedVariables false
set_option linter.unusedSimpArgs false

theorem alloc_below (w : World) (o : Obj) : Below w.heap.size w (w.alloc o) := (Below.refl _ _).alloc (Nat.le_refl _) _
/-- What a slice owns is no block of another type. -/
theorem Own.ne_blk {α : Type} {enc : α → List Value} {e : TypeId} {size lo : Nat} {w : World} {v : Value} {xs : List α} (h : Own enc e size lo w v xs) {b : Nat} {cs : List Value} {t : TypeId} (hb : Blk w b cs t) (ht : t ≠ e) : v.ownBlock ≠ some b := by
  intro hk
  rcases h.2 with ⟨rfl, -⟩ | ⟨g, cap, cur, rfl, -, hg, -⟩
  · cases hk
  · have e1 : g = b := by simpa [Value.ownBlock] using hk
    subst e1
    unfold Blk at hb
    rw [hg] at hb
    injection hb with hb
    injection hb with _ hb
    exact ht hb.symm
theorem OwnR.setBlk {lo : Nat} {w : World} {v : Value} {hs : List Value} {xs : List (List V)} (h : OwnR lo w v hs xs) {b : Nat} {cs : List Value} {t : TypeId} (hb : Blk w b cs t) (h1 : t ≠ 36) (h2 : t ≠ 44) (i : Nat) (u : Value) : OwnR lo (w.setCell ⟨b, i, none⟩ u) v hs xs :=
  ⟨Own.setOther h.own (Own.ne_blk h.own hb h1) u, h.len, fun i hi hi2 => Own.setOther (h.row i hi hi2) (Own.ne_blk (h.row i hi hi2) hb h2) u, h.apart⟩
def relCanon (xs : List (List V)) : List (List V) := canonL cmpR xs
theorem canon_len_le (xs : List (List V)) : (relCanon xs).length ≤ xs.length := by
  have key : ∀ (l o : List (List V)), (l.foldl (fun o x => insR cmpR x o) o).length ≤ o.length + l.length := by
    intro l
    induction l with
    | nil => intro o; simp
    | cons x r ih =>
      intro o
      rw [List.foldl_cons]
      have h1 := ih (insR cmpR x o)
      have h2 : (insR cmpR x o).length ≤ o.length + 1 := by
        clear h1 ih
        induction o with
        | nil => simp [insR]
        | cons y o ih =>
          simp only [insR]
          split
          · simp
          · split
            · simp
            · simp only [List.length_cons]; omega
      rw [List.length_cons]
      omega
  have := key xs []
  simpa [relCanon, canonL] using this
set_option maxRecDepth 100000 in
set_option maxHeartbeats 4000000 in
theorem made_any (lo lc hc : Nat) (cols : List S) (cv : Value) (xs : List (List V)) (hs : List Value) (v : Value) (w : World) (hcols : Strs lc hc w cv cols) (hhc : hc ≤ lo) (hlo : lo ≤ w.heap.size) (h : OwnR lo w v hs xs) (hlen : xs.length ≤ 1000000000000) (R : Ending → World → Prop)
    (hbad : (32 < cols.length ∨ 100000 < (relCanon xs).length) → ∀ w', Below lo w w' → w.heap.size ≤ w'.heap.size → R (.returned (.tuple #[.agg #[.slice none 0 0, .slice none 0 0], .int .i64 140])) w')
    (hok : cols.length ≤ 32 → (relCanon xs).length ≤ 100000 → ∀ w' cv' lv hs', Below lo w w' → w.heap.size ≤ w'.heap.size → OwnT w.heap.size w' cv' cols → OwnR lo w' lv hs' (relCanon xs) → R (.returned (.tuple #[.agg #[cv', lv], .int .i64 0])) w') :
    Calls Tryz.prog 27 #[cv, v] w R := by
  have Hbad := Lib.hid hbad
  have Hok := Lib.hid hok
  have Hcols := Lib.hid hcols
  have H := Lib.hid h
  obtain ⟨ac, cc, rfl, -, -, -, -⟩ := hcols.form
  obtain ⟨av, cv2, hv⟩ := Own.slice h.own
  clear hbad hok hcols h
  have hB0 := alloc_below w (.cells #[.slice none 0 0, .slice none 0 0] 25)
  have hb0 := Blk.new w [.slice none 0 0, .slice none 0 0] 25 rfl
  subst hv
  go_enter Tryz.func27, Tryz.ntmps27
  go_upto_region 1 with fail
  generalize w.alloc (.cells #[.slice none 0 0, .slice none 0 0] 25) = w0 at *
  have HB0 := Lib.hid hB0
  have Hb0 := Lib.hid hb0
  have hz0 := hB0.size
  have hb0l := hb0.lt
  have H0 := Lib.hid (H.out.kept hB0)
  clear hB0 hb0
  go_wp2_with fail
  have hapt : ∀ z, (Value.slice av hs.length cv2).ownBlock = some z → lo ≤ z ∧ z ≠ w.heap.size := fun z hz => by
    have := Own.lt H.out.own z hz
    omega
  have Hapt := Lib.hid hapt
  clear hapt
  refine sortRows_any lo _ hs xs w0 H0.out hlen _ (fun w1 hs1 xs1 hO1 h1 hp1 hup1 => ?_)
  have Hcan : Hid (compactL cmpR xs1 = relCanon xs) := Lib.hid (compact_canon cmpR_cmp hup1 (fun x => hp1.mem_iff))
  have hl1 : xs1.length ≤ 1000000000000 := by rw [hp1.length_eq]; exact hlen
  have HO1 := Lib.hid hO1
  have H1 := Lib.hid h1
  have hlen1 : hs1.length = hs.length := by
    obtain ⟨p, c, e⟩ := Own.slice h1.own
    injection e with _ e _
    exact e.symm
  clear hO1 h1 hp1 hup1
  go_wp2_with fail
  refine compact_any lo _ hs1 xs1 w1 H1.out hl1 _ (fun w2 v2 hs2 hO2 h2 => ?_)
  rw [Hcan.out] at h2
  have HO2 := Lib.hid (HO1.out.trans hO2)
  have hB2 : Below lo w w2 := (HB0.out.mono hlo).trans (HO2.out.below (by omega) (fun z hz => (Hapt.out z hz).1))
  have hb2 : Blk w2 w.heap.size [.slice none 0 0, .slice none 0 0] 25 := HO2.out.blk Hb0.out (fun e => (Hapt.out _ e).2 rfl)
  have HB2 := Lib.hid hB2
  have Hb2 := Lib.hid hb2
  have hz2 := HO2.out.size
  have H2 := Lib.hid h2
  have hlr := h2.len
  have hcan := canon_len_le xs
  obtain ⟨p2, c2, e2⟩ := Own.slice h2.own
  rw [hlr] at e2
  subst e2
  obtain ⟨d0, d1⟩ := hb2.cells.c2
  have f0 := hb2.free 0
  have f1 := hb2.free 1
  clear hO2 h2 hB2 hlr
  have Hrv2 := Lib.hid (((hb2.set 0 (.slice none 0 0)).set 1 (.slice none 0 0)).cells.runVar (P := Tryz.prog) (t := 25) (fun _ => by kernel_rfl) (fun _ => by kernel_rfl))
  have HBs := Lib.hid ((HB2.out.setCell (p := ⟨w.heap.size, 0, none⟩) hlo (.slice none 0 0)).setCell (p := ⟨w.heap.size, 1, none⟩) hlo (.slice none 0 0))
  clear hb2
  simp only [Nat.zero_add] at d1
  obtain ⟨m, hm⟩ : ∃ m, m = (relCanon xs).length := ⟨_, rfl⟩
  obtain ⟨q, hq⟩ : ∃ q, q = cols.length := ⟨_, rfl⟩
  rw [← hm, ← hq]
  have Hm := Lib.hid hm
  have Hq := Lib.hid hq
  clear hm hq hcan
  by_cases h32 : 32 < q
  · have c32 : (32 : Int) < (q : Int) := by omega
    have hr := Hbad.out (.inl (by rw [← Hq.out]; exact h32)) _ HBs.out (by simp; omega)
    have Hr := Lib.hid hr
    clear hr
    go_wp2_with fail
    exact ret_cell_tmp rfl rfl Hrv2.out rfl rfl Hr.out
  · have c32 : ¬ (32 : Int) < (q : Int) := by omega
    by_cases h10 : 100000 < m
    · have c10 : (100000 : Int) < (m : Int) := by omega
      have hr := Hbad.out (.inr (by rw [← Hm.out]; exact h10)) _ HBs.out (by simp; omega)
      have Hr := Lib.hid hr
      clear hr
      go_wp2_with fail
      exact ret_cell_tmp rfl rfl Hrv2.out rfl rfl Hr.out
    · have c10 : ¬ (100000 : Int) < (m : Int) := by omega
      clear Hrv2 HBs
      go_wp2_with fail
      rw [Hq.out]
      refine CloneStr_any lc hc cols _ w2 (Sl.below Hcols.out Strs.loc HB2.out hhc) (by omega) (by rw [← Hq.out]; omega) _ (fun w3 v3 hB3 ho3 => ?_)
      have hb3 := Hb2.out.below hB3 (by omega)
      have hrv := ((hb3.set 0 v3).set 1 (.slice p2 m c2)).cells.runVar (P := Tryz.prog) (t := 25) (fun _ => by kernel_rfl) (fun _ => by kernel_rfl)
      have h3 := H2.out.kept hB3
      have hT := (Own.setOther (Own.setOther ho3 (p := ⟨w.heap.size, 0, none⟩) (Own.ne_blk ho3 hb3 (by decide)) v3) (p := ⟨w.heap.size, 1, none⟩) (Own.ne_blk ho3 hb3 (by decide)) (.slice p2 m c2))
      have hR3 := (h3.setBlk hb3 (by decide) (by decide) 0 v3).setBlk (hb3.set 0 v3) (by decide) (by decide) 1 (.slice p2 m c2)
      have hB3' := ((HB2.out.trans (hB3.mono (by omega))).setCell (p := ⟨w.heap.size, 0, none⟩) hlo v3).setCell (p := ⟨w.heap.size, 1, none⟩) hlo (.slice p2 m c2)
      have hz3 := hB3.size
      have hr := Hok.out (by rw [← Hq.out]; omega) (by rw [← Hm.out]; omega) _ v3 _ hs2 hB3' (by simp; omega) (Own.lower hT (by omega)) hR3
      rw [← Hm.out] at hr
      obtain ⟨p3, c3, rfl⟩ := Own.slice ho3
      obtain ⟨d0, d1⟩ := hb3.cells.c2
      have f0 := hb3.free 0
      have f1 := hb3.free 1
      simp only [Nat.zero_add] at d1
      have Hr := Lib.hid hr
      have Hrv := Lib.hid hrv
      clear hb3 hrv h3 hT hR3 hB3' hr ho3 hB3
      go_wp2_with fail
      exact ret_cell_tmp rfl rfl Hrv.out rfl rfl Hr.out
end Go.Proofs.YtmconajkgjfplaaGreat
end

/- The relation of rows: Of. (Printed by rowg.py.) -/
section
set_option linter.unusedVariables false
set_option linter.unusedSimpArgs false
namespace Go.Proofs.YtmconajkgjfplaaGreat
open Go.RowKit
set_option linter.unusedVariables false
set_option linter.unusedSimpArgs false

set_option maxRecDepth 100000 in
set_option maxHeartbeats 4000000 in
theorem IndexFuncRow_any (lo hi : Nat) (l : List (List V)) (v : Value) (g : FuncId) (capt : Array Value) (p : List V → Bool) (w : World) (hv : Rws lo hi w v l) (hhi : hi ≤ w.heap.size)
    (he : ∀ args w, (callFunc g args).run Tryz.prog w = .ok (.enter g args) w)
    (hq : ∀ k (hk : k < l.length) xv w' R, Below w.heap.size w w' → Row1 lo hi w' xv l[k] → (∀ w'', Below w'.heap.size w' w'' → R (.returned (.bool (p l[k]))) w'') → Calls Tryz.prog g (#[xv] ++ capt) w' R)
    (R : Ending → World → Prop) (hR : ∀ w' i, Below w.heap.size w w' → (l.any p = decide (0 ≤ i)) → R (.returned (.int .i64 i)) w') : Calls Tryz.prog 82 #[v, .func (.func g) #[] capt] w R := by
  have HR := Lib.hid hR
  have Hv := Lib.hid hv
  have Hq := Lib.hid hq
  obtain ⟨av, cv, rfl, hcl, hcm, -, -⟩ := hv.form
  have hl63 := hv.len
  clear hR hv hq
  go_enter Tryz.func82, Tryz.ntmps82
  go_wp2_with fail
  go_loopw [8] (fun t8 wr => ∃ k : Nat, k ≤ l.length ∧ t8 = .int .i64 k ∧ (∀ i, i < k → p (l.getD i []) = false) ∧ Below w.heap.size w wr) (fun t8 _ => l.length - (intOf t8).toNat)
  case atStart => exact ⟨0, Nat.zero_le _, rfl, fun i h => absurd h (Nat.not_lt_zero _), Below.refl _ _⟩
  case round =>
    obtain ⟨k, hk, rfl, hno, hB⟩ := hrel
    obtain ⟨wo, ewo⟩ : ∃ x, x = wr := ⟨_, rfl⟩
    subst ewo
    have Hno := Lib.hid hno
    have HB := Lib.hid hB
    have hz := hB.size
    have kk0 : (0 : Int) ≤ (k : Int) := by omega
    clear hno hB
    by_cases hlt : k < l.length
    · obtain ⟨ao', cap', e', -, -, -, hc⟩ := (Sl.below Hv.out rowE_loc HB.out hhi).form
      injection e' with e1 e2 e3
      subst e1 e3
      obtain ⟨b, off, rfl, hb1, hb2, hcc⟩ := hc k hlt
      obtain ⟨cs, _, hcs, sv, rfl, hsv⟩ := hcc k hlt
      have g0 := hcs.c1
      rw [Nat.mul_one] at g0
      have kkl : (k : Int) < (l.length : Int) := by omega
      have Hsv := Lib.hid hsv
      have Hx : Hid (l.getD k [] = l[k]) := Lib.hid (getDS l _ k hlt)
      have hslv := hsv
      obtain ⟨ax, cx, rfl, -, -, -, -⟩ := hslv.form
      clear hcc hcs hc hsv hslv
      have Hq1 := Lib.hid (Hq.out k hlt)
      have Hany : Hid (p l[k] = true → l.any p = true) := Lib.hid (fun h => by rw [List.any_eq_true]; exact ⟨l[k], List.getElem_mem hlt, h⟩)
      generalize l[k] = x at *
      go_wp2_with fail
      refine Hq1.out _ wo _ HB.out Hsv.out (fun w2 hB2 => ?_)
      have HB2 := Lib.hid (HB.out.trans (hB2.mono hz))
      clear hB2
      cases hp : p x
      · have Hp := Lib.hid hp
        clear hp
        go_wp2_with fail
        go_roundw
        case rel => exact ⟨k + 1, by omega, by go_num, fun i hi => by
          by_cases e : i = k
          · subst e; rw [Hx.out]; exact Hp.out
          · exact Hno.out i (by omega), HB2.out⟩
        case measure => simp [intOf]; omega
      · have hr := HR.out w2 k HB2.out (by rw [Hany.out hp]; simp)
        clear hp
        go_wp2_with fail
        first | exact hr | exact fin hr rfl
    · obtain rfl : k = l.length := by omega
      have hr := HR.out wo (-1) HB.out (by
        have : l.any p = false := by
          rw [List.any_eq_false]
          intro x hx
          obtain ⟨i, hi, rfl⟩ := List.getElem_of_mem hx
          have := Hno.out i hi
          rw [getDS l _ i hi] at this
          simp [this]
        rw [this]; rfl)
      go_wp2_with fail
      first | exact hr | exact fin hr rfl
set_option maxRecDepth 100000 in
set_option maxHeartbeats 4000000 in
theorem ContainsFuncRow_any (lo hi : Nat) (l : List (List V)) (v : Value) (g : FuncId) (capt : Array Value) (p : List V → Bool) (w : World) (hv : Rws lo hi w v l) (hhi : hi ≤ w.heap.size)
    (he : ∀ args w, (callFunc g args).run Tryz.prog w = .ok (.enter g args) w)
    (hq : ∀ k (hk : k < l.length) xv w' R, Below w.heap.size w w' → Row1 lo hi w' xv l[k] → (∀ w'', Below w'.heap.size w' w'' → R (.returned (.bool (p l[k]))) w'') → Calls Tryz.prog g (#[xv] ++ capt) w' R)
    (R : Ending → World → Prop) (hR : ∀ w', Below w.heap.size w w' → R (.returned (.bool (l.any p))) w') : Calls Tryz.prog 55 #[v, .func (.func g) #[] capt] w R := by
  have HR := Lib.hid hR
  have Hv := Lib.hid hv
  have Hq := Lib.hid hq
  have He := Lib.hid he
  obtain ⟨av, cv, rfl, -, -, -, -⟩ := hv.form
  clear hR hv hq he
  go_enter Tryz.func55, Tryz.ntmps55
  go_wp2_with fail
  refine IndexFuncRow_any lo hi l _ g capt p w Hv.out hhi He.out Hq.out _ (fun w2 i hB2 hi => ?_)
  have hr := HR.out w2 hB2
  rw [hi] at hr
  clear hi hB2
  go_wp2_with fail
  first | exact hr | exact fin hr rfl
set_option maxRecDepth 100000 in
theorem Of1_any (x : List V) (cols : List S) (ax ac : Option Addr) (cx cc b : Nat) (w : World) (hb : Blk w b [.slice ac cols.length cc] 22) (R : Ending → World → Prop) (hR : R (.returned (.bool (x.length != cols.length))) w) :
    Calls Tryz.prog 56 #[.slice ax x.length cx, .pointer (some ⟨b, 0, none⟩)] w R := by
  have c0 := hb.cells.c1
  clear hb
  go_enter Tryz.func56, Tryz.ntmps56
  go_wp2_with fail
  exact fin hR (by congr 1; rw [Bool.eq_iff_iff]; simp; omega)
/-- May columns and rows be a relation's? -/
def fitB (cols : List S) (l : List (List V)) : Bool := onceB cols && !(l.any fun x => x.length != cols.length)
def ofErr (cols : List S) (l : List (List V)) : Int := if fitB cols l then (if 100000 < (relCanon l).length then 140 else 0) else 2
theorem once_len {cols : List S} (h : onceB cols = true) : cols.length ≤ 32 := by
  rcases Nat.lt_or_ge 32 cols.length with h2 | h2
  · unfold onceB at h
    rw [List.all_eq_true] at h
    have := h 32 (List.mem_range.2 h2)
    simp [onceAt] at this
  · exact h2
theorem gather_own (l : List (List V)) : l.filterMap some = l := List.filterMap_some
set_option maxRecDepth 100000 in
set_option maxHeartbeats 4000000 in
theorem Of_any (lo hi lc hc : Nat) (cols : List S) (l : List (List V)) (cv' lv : Value) (w : World) (hcols : Strs lc hc w cv' cols) (hv : Rws lo hi w lv l) (hhi : hi ≤ w.heap.size) (hhc : hc ≤ w.heap.size) (hlen1 : l.length ≤ 1000000000000) (hrl : ∀ x ∈ l, x.length ≤ 4000000000000) (R : Ending → World → Prop)
    (hbad : ofErr cols l ≠ 0 → ∀ w', Below w.heap.size w w' → R (.returned (.tuple #[.agg #[.slice none 0 0, .slice none 0 0], .int .i64 (ofErr cols l)])) w')
    (hok : ofErr cols l = 0 → ∀ w' cv2 lv2 hs, Below w.heap.size w w' → OwnT w.heap.size w' cv2 cols → OwnR w.heap.size w' lv2 hs (relCanon l) → R (.returned (.tuple #[.agg #[cv2, lv2], .int .i64 0])) w') :
    Calls Tryz.prog 23 #[cv', lv] w R := by
  have Hbad := Lib.hid hbad
  have Hok := Lib.hid hok
  have Hc := Lib.hid hcols
  have Hv := Lib.hid hv
  have Hrl := Lib.hid hrl
  obtain ⟨ac, cc, rfl, -, -, -, -⟩ := hcols.form
  obtain ⟨av, cv, rfl, -, -, -, -⟩ := hv.form
  have hlen2 : l.length ≤ 5000000000000 := by omega
  clear hbad hok hcols hv hrl
  have hB1 := alloc_below w (.cells #[.slice ac cols.length cc] 22)
  have hb1 := Blk.new w [.slice ac cols.length cc] 22 rfl
  have hs1 : (w.alloc (.cells #[.slice ac cols.length cc] 22)).heap.size = w.heap.size + 1 := by simp
  have hB2 := alloc_below (w.alloc (.cells #[.slice ac cols.length cc] 22)) (.cells #[.slice none 0 0, .slice none 0 0] 25)
  have hb2 := Blk.new (w.alloc (.cells #[.slice ac cols.length cc] 22)) [.slice none 0 0, .slice none 0 0] 25 hs1.symm
  have hb12 := hb1.below hB2 hb1.lt
  have hB := hB1.trans (hB2.mono hB1.size)
  go_enter Tryz.func23, Tryz.ntmps23
  go_upto_region 1 with fail
  generalize (w.alloc (.cells #[.slice ac cols.length cc] 22)).alloc (.cells #[.slice none 0 0, .slice none 0 0] 25) = w2 at *
  have HB := Lib.hid hB
  have Hb1 := Lib.hid hb12
  have Hb2 := Lib.hid hb2
  have hz2 := hB.size
  have hl1 := hb12.lt
  have hl2 := hb2.lt
  have c0 := hb12.cells.c1
  obtain ⟨d0, d1⟩ := hb2.cells.c2
  have f0 := hb2.free 0
  have f1 := hb2.free 1
  simp only [Nat.zero_add] at d1
  have Hrvn := Lib.hid (((hb2.set 0 (.slice none 0 0)).set 1 (.slice none 0 0)).cells.runVar (P := Tryz.prog) (t := 25) (fun _ => by kernel_rfl) (fun _ => by kernel_rfl))
  clear hB1 hb1 hs1 hB2 hb2 hb12 hB
  go_wp2_with fail
  refine once_any lc hc cols _ w2 (Sl.below Hc.out Strs.loc HB.out hhc) _ ?_
  cases honce : onceB cols
  · have he : ofErr cols l = 2 := by unfold ofErr fitB; rw [honce]; rfl
    have hr := Hbad.out (by rw [he]; decide) _ ((HB.out.setCell (p := ⟨w.heap.size + 1, 0, none⟩) (Nat.le_succ _) (.slice none 0 0)).setCell (p := ⟨w.heap.size + 1, 1, none⟩) (Nat.le_succ _) (.slice none 0 0))
    rw [he] at hr
    have Hr := Lib.hid hr
    clear honce he hr
    go_wp2_with fail
    exact ret_cell_tmp rfl rfl Hrvn.out rfl rfl Hr.out
  · have Hon := Lib.hid honce
    clear honce
    clear d0 d1 f0 f1
    go_wp2_with fail
    refine ContainsFuncRow_any lo hi l _ 56 #[.pointer (some ⟨w.heap.size, 0, none⟩)] (fun x => x.length != cols.length) w2 (Sl.below Hv.out rowE_loc HB.out hhi) (by omega) (enters_of Tryz.func56 (by kernel_rfl) rfl) (fun k hk xv w' R' hB' hx' hR' => ?_) _ (fun w3 hB3 => ?_)
    · obtain ⟨ax, cx, rfl, -, -, -, -⟩ := hx'.form
      exact Of1_any l[k] cols ax ac cx cc w.heap.size w' (Hb1.out.below hB' hl1) R' (hR' w' (Below.refl _ _))
    have HB3 := Lib.hid (HB.out.trans (hB3.mono hz2))
    have hb3 := Hb2.out.below hB3 hl2
    have hb13 := Hb1.out.below hB3 hl1
    have hz3 := HB3.out.size
    have hz23 := hB3.size
    clear hB3
    cases hany : l.any (fun x => x.length != cols.length)
    · have hfit : fitB cols l = true := by unfold fitB; rw [Hon.out, hany]; rfl
      have Hfit := Lib.hid hfit
      have c0 := hb13.cells.c1
      have hbw : w.heap.size < w3.heap.size := by omega
      have hhi3 : hi ≤ w3.heap.size := by omega
      have HB3d := Lib.hid (HB3.out.drew)
      have Hb3 := Lib.hid hb3
      clear hany hfit hb3 hb13
      go_upto_region 3 with fail
      have hS0 : Only (fun z => z = w.heap.size + 1) w3 w3.drew := Only.drew _
      refine wp_region_held_drew (S := fun w' => Only (fun z => z = w.heap.size + 1) w3 w') (by kernel_rfl) hS0 (fun hHeld => ?_)
      refine wpAnyH_take (i := 0) (v := .slice ac cols.length cc) rfl (by kernel_rfl) (by kernel_rfl) (by kernel_rfl) (fun _ _ _ h => h) (Or.inl ⟨by rfl, ?_⟩) hHeld ?_
      · intro w' hSw; have kx := (World.cell?_of_block (hSw.block w.heap.size hbw (by omega))).trans c0; go_simp
      try simp only [Act.put, List.getElem_toArray, List.getElem_cons_succ, List.getElem_cons_zero, List.setIfInBounds_toArray, List.set_cons_zero, List.set_cons_succ]
      refine wpAnyH_take (i := 1) (v := .slice av l.length cv) rfl (by kernel_rfl) (by kernel_rfl) (by kernel_rfl) (fun _ _ _ h => h) (Or.inl ⟨by rfl, ?_⟩) hHeld ?_
      · intro w' hSw; go_simp
      try simp only [Act.put, List.getElem_toArray, List.getElem_cons_succ, List.getElem_cons_zero, List.setIfInBounds_toArray, List.set_cons_zero, List.set_cons_succ]
      refine wpAnyH_ready (rs := [2]) (by kernel_rfl) (by simp) ?_
      refine allCall (f := 28) (args := #[.slice av l.length cv, .func (.func 34) #[] #[]]) rfl (by kernel_rfl) (by kernel_rfl) ?_ AllReadyH.nil
      refine gather_any lo hi l _ 34 #[] some w3.drew (Sl.below Hv.out rowE_loc HB3d.out hhi) (by exact hhi3) hlen2 (enters_of Tryz.func34 (by kernel_rfl) rfl) (fun k hk xv w' R' hB' hx' hR' => ?_) _ (fun w4 v4 hs4 hB4 h4 => ?_)
      · refine own_any lo hi l[k] xv w' hx' (Nat.le_trans hhi3 hB'.size) (Hrl.out _ (List.getElem_mem hk)) R' (fun w'' yv hB'' ho'' => ?_)
        obtain ⟨a, c, e⟩ := Own.slice ho''
        exact hR' w'' yv hB'' (fun _ => ho'') ⟨a, _, c, e⟩
      rw [gather_own] at h4
      have HB4 := Lib.hid hB4
      have H4 := Lib.hid h4
      refine ⟨_, rfl, hS0.trans (Below.only hB4), ?_⟩
      obtain ⟨p4, c4, e4⟩ := Own.slice h4.own
      have hl4 := h4.len
      rw [hl4] at e4
      subst e4
      clear hB4 h4 hHeld
      have hHeld := hS0.trans (Below.only (A := fun z => z = w.heap.size + 1) HB4.out)
      try simp only [Act.put, List.getElem_toArray, List.getElem_cons_succ, List.getElem_cons_zero, List.setIfInBounds_toArray, List.set_cons_zero, List.set_cons_succ]
      refine wpAnyH_ready (rs := [3]) (by kernel_rfl) (by simp) ?_
      refine allCall (f := 27) (args := #[.slice ac cols.length cc, .slice p4 l.length c4]) rfl (by kernel_rfl) (by kernel_rfl) ?_ AllReadyH.nil
      have hO34 : Only (fun z => z = w.heap.size + 1) w3 w4 := hHeld
      have hz4 : w3.heap.size ≤ w4.heap.size := HB4.out.size
      refine made_any w3.heap.size lc hc cols _ l hs4 _ w4 (Sl.below Hc.out Strs.loc ((HB3.out.trans ((Below.refl w.heap.size w3).drew)).trans (HB4.out.mono hz3)) hhc) (by omega) hz4 H4.out hlen1 _ (fun hbad w5 hB5 hz5 => ?_) (fun hok1 hok2 w5 cv5 lv5 hs5 hB5 hz5 hT5 hR5 => ?_)
      · have hB35 : Below w3.heap.size w3 w5 := (((Below.refl w3.heap.size w3).drew).trans HB4.out).trans hB5
        have hS5 := Below.only (A := fun z => z = w.heap.size + 1) hB35
        refine ⟨_, rfl, hS5, ?_⟩
        have hb5 := Hb3.out.below hB35 (by omega)
        obtain ⟨d0, d1⟩ := hb5.cells.c2
        have f0 := hb5.free 0
        have f1 := hb5.free 1
        simp only [Nat.zero_add] at d1
        have Hrv := Lib.hid (((hb5.set 0 (.slice none 0 0)).set 1 (.slice none 0 0)).cells.runVar (P := Tryz.prog) (t := 25) (fun _ => by kernel_rfl) (fun _ => by kernel_rfl))
        have he : ofErr cols l = 140 := by
          unfold ofErr
          rw [if_pos Hfit.out, if_pos (by rcases hbad with h | h; · have := once_len Hon.out; omega
                                          · exact h)]
        have hr := Hbad.out (by rw [he]; decide) _ (((HB3.out.trans (hB35.mono hz3)).setCell (p := ⟨w.heap.size + 1, 0, none⟩) (Nat.le_succ _) (.slice none 0 0)).setCell (p := ⟨w.heap.size + 1, 1, none⟩) (Nat.le_succ _) (.slice none 0 0))
        rw [he] at hr
        have Hr := Lib.hid hr
        clear hHeld he hr hb5
        have hHeld := hS5
        try simp only [Act.put, List.getElem_toArray, List.getElem_cons_succ, List.getElem_cons_zero, List.setIfInBounds_toArray, List.set_cons_zero, List.set_cons_succ]
        refine wpAnyH_take (i := 4) (v := .agg #[.slice none 0 0, .slice none 0 0]) rfl (by kernel_rfl) (by kernel_rfl) (by kernel_rfl) (fun _ _ _ h => h) (Or.inl ⟨by rfl, ?_⟩) hHeld ?_
        · intro w' hSw; go_simp
        try simp only [Act.put, List.getElem_toArray, List.getElem_cons_succ, List.getElem_cons_zero, List.setIfInBounds_toArray, List.set_cons_zero, List.set_cons_succ]
        refine wpAnyH_take (i := 5) (v := .int .i64 140) rfl (by kernel_rfl) (by kernel_rfl) (by kernel_rfl) (fun _ _ _ h => h) (Or.inl ⟨by rfl, ?_⟩) hHeld ?_
        · intro w' hSw; go_simp
        try simp only [Act.put, List.getElem_toArray, List.getElem_cons_succ, List.getElem_cons_zero, List.setIfInBounds_toArray, List.set_cons_zero, List.set_cons_succ]
        refine wpAnyH_ready (rs := [6]) (by kernel_rfl) (by simp) ?_
        refine allSkip (w' := (w5.setCell ⟨w.heap.size + 1, 0, none⟩ (.slice none 0 0)).setCell ⟨w.heap.size + 1, 1, none⟩ (.slice none 0 0)) rfl (by kernel_rfl) ?_ ((hHeld.trans (Only.setCell (A := fun z => z = w.heap.size + 1) w5 (p := ⟨w.heap.size + 1, 0, none⟩) rfl _)).trans (Only.setCell (A := fun z => z = w.heap.size + 1) _ (p := ⟨w.heap.size + 1, 1, none⟩) rfl _)) ?_ AllReadyH.nil
        · go_simp
        try simp only [Act.put, List.getElem_toArray, List.getElem_cons_succ, List.getElem_cons_zero, List.setIfInBounds_toArray, List.set_cons_zero, List.set_cons_succ]
        have hHeld2 := ((hHeld.trans (Only.setCell (A := fun z => z = w.heap.size + 1) w5 (p := ⟨w.heap.size + 1, 0, none⟩) rfl (.slice none 0 0))).trans (Only.setCell (A := fun z => z = w.heap.size + 1) _ (p := ⟨w.heap.size + 1, 1, none⟩) rfl (.slice none 0 0)))
        clear hHeld
        have hHeld := hHeld2
        refine wpAnyH_take (i := 7) (v := .int .i64 140) rfl (by kernel_rfl) (by kernel_rfl) (by kernel_rfl) (fun _ _ _ h => h) (Or.inl ⟨by rfl, ?_⟩) hHeld ?_
        · intro w' hSw; go_simp
        try simp only [Act.put, List.getElem_toArray, List.getElem_cons_succ, List.getElem_cons_zero, List.setIfInBounds_toArray, List.set_cons_zero, List.set_cons_succ]
        refine wpAnyH_done (by kernel_rfl) ?_ _
        clear hHeld
        go_wp2_with fail
        exact ret_cell_tmp rfl rfl Hrv.out rfl rfl Hr.out
      · have hB35 : Below w3.heap.size w3 w5 := (((Below.refl w3.heap.size w3).drew).trans HB4.out).trans hB5
        have hS5 := Below.only (A := fun z => z = w.heap.size + 1) hB35
        refine ⟨_, rfl, hS5, ?_⟩
        have hb5 := Hb3.out.below hB35 (by omega)
        obtain ⟨d0, d1⟩ := hb5.cells.c2
        have f0 := hb5.free 0
        have f1 := hb5.free 1
        simp only [Nat.zero_add] at d1
        obtain ⟨pc, qc, ec⟩ := Own.slice hT5
        obtain ⟨pr, qr, er⟩ := Own.slice hR5.own
        obtain ⟨ln, hln⟩ : ∃ ln, ln = hs5.length := ⟨_, rfl⟩
        rw [← hln] at er
        subst ec er
        have Hrv := Lib.hid (((hb5.set 0 (.slice pc cols.length qc)).set 1 (.slice pr ln qr)).cells.runVar (P := Tryz.prog) (t := 25) (fun _ => by kernel_rfl) (fun _ => by kernel_rfl))
        have he : ofErr cols l = 0 := by
          unfold ofErr
          rw [if_pos Hfit.out, if_neg (by omega)]
        have hz4' := hB5.size
        have hT6 := Own.setOther (Own.setOther (Own.lower hT5 (show w.heap.size ≤ w4.heap.size by omega)) (p := ⟨w.heap.size + 1, 0, none⟩) (Own.ne_blk hT5 hb5 (by decide)) (.slice pc cols.length qc)) (p := ⟨w.heap.size + 1, 1, none⟩) (Own.ne_blk hT5 hb5 (by decide)) (.slice pr ln qr)
        have hR6 := ((hR5.lower hz3).setBlk hb5 (by decide) (by decide) 0 (.slice pc cols.length qc)).setBlk (hb5.set 0 (.slice pc cols.length qc)) (by decide) (by decide) 1 (.slice pr ln qr)
        have hr := Hok.out he _ _ _ _ (((HB3.out.trans (hB35.mono hz3)).setCell (p := ⟨w.heap.size + 1, 0, none⟩) (Nat.le_succ _) (.slice pc cols.length qc)).setCell (p := ⟨w.heap.size + 1, 1, none⟩) (Nat.le_succ _) (.slice pr ln qr)) hT6 hR6
        have Hr := Lib.hid hr
        clear hHeld he hr hb5 hT6 hR6 hT5 hR5 hln
        have hHeld := hS5
        try simp only [Act.put, List.getElem_toArray, List.getElem_cons_succ, List.getElem_cons_zero, List.setIfInBounds_toArray, List.set_cons_zero, List.set_cons_succ]
        refine wpAnyH_take (i := 4) (v := .agg #[.slice pc cols.length qc, .slice pr ln qr]) rfl (by kernel_rfl) (by kernel_rfl) (by kernel_rfl) (fun _ _ _ h => h) (Or.inl ⟨by rfl, ?_⟩) hHeld ?_
        · intro w' hSw; go_simp
        try simp only [Act.put, List.getElem_toArray, List.getElem_cons_succ, List.getElem_cons_zero, List.setIfInBounds_toArray, List.set_cons_zero, List.set_cons_succ]
        refine wpAnyH_take (i := 5) (v := .int .i64 0) rfl (by kernel_rfl) (by kernel_rfl) (by kernel_rfl) (fun _ _ _ h => h) (Or.inl ⟨by rfl, ?_⟩) hHeld ?_
        · intro w' hSw; go_simp
        try simp only [Act.put, List.getElem_toArray, List.getElem_cons_succ, List.getElem_cons_zero, List.setIfInBounds_toArray, List.set_cons_zero, List.set_cons_succ]
        refine wpAnyH_ready (rs := [6]) (by kernel_rfl) (by simp) ?_
        refine allSkip (w' := (w5.setCell ⟨w.heap.size + 1, 0, none⟩ (.slice pc cols.length qc)).setCell ⟨w.heap.size + 1, 1, none⟩ (.slice pr ln qr)) rfl (by kernel_rfl) ?_ ((hHeld.trans (Only.setCell (A := fun z => z = w.heap.size + 1) w5 (p := ⟨w.heap.size + 1, 0, none⟩) rfl _)).trans (Only.setCell (A := fun z => z = w.heap.size + 1) _ (p := ⟨w.heap.size + 1, 1, none⟩) rfl _)) ?_ AllReadyH.nil
        · go_simp
        try simp only [Act.put, List.getElem_toArray, List.getElem_cons_succ, List.getElem_cons_zero, List.setIfInBounds_toArray, List.set_cons_zero, List.set_cons_succ]
        have hHeld2 := ((hHeld.trans (Only.setCell (A := fun z => z = w.heap.size + 1) w5 (p := ⟨w.heap.size + 1, 0, none⟩) rfl (.slice pc cols.length qc))).trans (Only.setCell (A := fun z => z = w.heap.size + 1) _ (p := ⟨w.heap.size + 1, 1, none⟩) rfl (.slice pr ln qr)))
        clear hHeld
        have hHeld := hHeld2
        refine wpAnyH_take (i := 7) (v := .int .i64 0) rfl (by kernel_rfl) (by kernel_rfl) (by kernel_rfl) (fun _ _ _ h => h) (Or.inl ⟨by rfl, ?_⟩) hHeld ?_
        · intro w' hSw; go_simp
        try simp only [Act.put, List.getElem_toArray, List.getElem_cons_succ, List.getElem_cons_zero, List.setIfInBounds_toArray, List.set_cons_zero, List.set_cons_succ]
        refine wpAnyH_done (by kernel_rfl) ?_ _
        clear hHeld
        go_wp2_with fail
        exact ret_cell_tmp rfl rfl Hrv.out rfl rfl Hr.out
    · have he : ofErr cols l = 2 := by unfold ofErr fitB; rw [hany]; simp
      obtain ⟨d0, d1⟩ := hb3.cells.c2
      have f0 := hb3.free 0
      have f1 := hb3.free 1
      simp only [Nat.zero_add] at d1
      have Hrv := Lib.hid (((hb3.set 0 (.slice none 0 0)).set 1 (.slice none 0 0)).cells.runVar (P := Tryz.prog) (t := 25) (fun _ => by kernel_rfl) (fun _ => by kernel_rfl))
      have hr := Hbad.out (by rw [he]; decide) _ ((HB3.out.setCell (p := ⟨w.heap.size + 1, 0, none⟩) (Nat.le_succ _) (.slice none 0 0)).setCell (p := ⟨w.heap.size + 1, 1, none⟩) (Nat.le_succ _) (.slice none 0 0))
      rw [he] at hr
      have Hr := Lib.hid hr
      clear hany he hr hb3 hb13
      go_wp2_with fail
      exact ret_cell_tmp rfl rfl Hrv.out rfl rfl Hr.out
end Go.Proofs.YtmconajkgjfplaaGreat
end

/- The document's rows: put. -/
section
set_option linter.unusedVariables false
set_option linter.unusedSimpArgs false
namespace Go.Proofs.YtmconajkgjfplaaGreat
open Go.RowKit
set_option linter.unusedVariables false
set_option linter.unusedSimpArgs false

/-- A row's header. -/
structure HD where
  a : Option Addr
  n : Nat
  c : Nat
  deriving Inhabited
def HD.v (h : HD) : Value := .slice h.a h.n h.c
def HD.enc (h : HD) : List Value := [.slice h.a h.n h.c]
theorem HD.one : ∀ x : HD, ∀ u ∈ HD.enc x, u.oneCell' = true := fun x u hu => by
  simp only [HD.enc, List.mem_cons, List.not_mem_nil, or_false] at hu
  subst hu; rfl
abbrev OwnHD := Own HD.enc 36 1
theorem rws_raw {lo hi : Nat} {w : World} {v : Value} {xs : List (List V)} (h : Rws lo hi w v xs) : ∃ hs : List HD, hs.length = xs.length ∧ Sl (flat HD.enc) 1 lo hi w v hs ∧ ∀ i (h1 : i < hs.length) (h2 : i < xs.length), Row1 lo hi w hs[i].v xs[i] := by
  obtain ⟨ao, cap, hv, hle, hcm, hn, hc⟩ := h.form
  by_cases hx : xs = []
  · subst hx
    exact ⟨[], rfl, ⟨ao, cap, hv, hle, by simpa [maxLen] using hcm, hn, fun hne => absurd rfl hne⟩, fun i h1 => absurd h1 (Nat.not_lt_zero _)⟩
  · have h0 : 0 < xs.length := by
      cases xs with
      | nil => exact absurd rfl hx
      | cons a r => simp
    obtain ⟨b, off, rfl, hb1, hb2, hcc⟩ := hc 0 h0
    have hi' : ∀ i, i < xs.length → ∃ p : HD, CellsAt w b (off + i * 1) p.enc ∧ Row1 lo hi w p.v (xs.getD i []) := by
      intro i hil
      obtain ⟨cs, hl, hcs, sv, rfl, hsv⟩ := hcc i hil
      have hsv' := hsv
      obtain ⟨sa, sc, hsl, -, -, -, -⟩ := hsv'.form
      subst hsl
      exact ⟨⟨sa, xs[i].length, sc⟩, hcs, by rw [getDS xs [] i hil]; exact hsv⟩
    obtain ⟨F, hF⟩ := Deep.choose_lt hi'
    have hlen : ((List.range xs.length).map F).length = xs.length := by simp
    refine ⟨(List.range xs.length).map F, hlen, ⟨some ⟨b, off, none⟩, cap, by rw [hlen]; exact hv, by rw [hlen]; exact hle, by simpa [maxLen] using hcm, hn, fun _ => ⟨b, off, rfl, hb1, hb2, fun k hk => ?_⟩⟩, fun i h1 h2 => ?_⟩
    · rw [hlen] at hk
      exact ⟨_, rfl, by simpa using (hF k hk).1, by simp [flat]⟩
    · simp only [List.getElem_map, List.getElem_range]
      have := (hF i h2).2
      rwa [getDS xs [] i h2] at this
/-- Rows of which the headers are a call's own; their values lie where they may, but not among the headers. -/
def LR (lo rl : Nat) (w : World) (v : Value) (xs : List (List V)) : Prop :=
  ∃ hs : List HD, hs.length = xs.length ∧ OwnHD lo w v hs ∧ ∀ i (h1 : i < hs.length) (h2 : i < xs.length), ∃ a b, rl ≤ a ∧ Row1 a b w hs[i].v xs[i] ∧ b ≤ w.heap.size ∧ ∀ k, v.ownBlock = some k → k < a ∨ b ≤ k
theorem infoHD : (Tryz.prog.info? 36).map (fun i => (i.zero, i.size, i.bytes)) = some (some (.slice none 0 0), 1, 24) := infoH
theorem LR.nil (lo rl : Nat) (w : World) : LR lo rl w (.slice none 0 0) [] := ⟨[], rfl, Own.nil _ _ _ _ _, fun i h => absurd h (Nat.not_lt_zero _)⟩
theorem LR.slice {lo rl : Nat} {w : World} {v : Value} {xs : List (List V)} (h : LR lo rl w v xs) : ∃ p c, v = .slice p xs.length c := by
  obtain ⟨hs, hl, ho, -⟩ := h
  obtain ⟨p, c, e⟩ := Own.slice ho
  exact ⟨p, c, by rw [e, hl]⟩
theorem LR.rws {lo rl : Nat} {w : World} {v : Value} {xs : List (List V)} (h : LR lo rl w v xs) (hrl : rl ≤ lo) : Rws rl w.heap.size w v xs := by
  obtain ⟨hs, hl, ho, hr⟩ := h
  have hsl : Sl (flat HD.enc) 1 lo w.heap.size w v hs := Sl.ofOwn (fun _ => rfl) ho
  obtain ⟨ao, cap, hv, hle, hcm, hn, hc⟩ := hsl.form
  refine ⟨ao, cap, by rw [hv, hl], by rw [← hl]; exact hle, by simpa [maxLen] using hcm, hn, fun hne => ?_⟩
  have h0 : 0 < hs.length := by
    rw [hl]
    cases xs with
    | nil => exact absurd rfl hne
    | cons a r => simp
  obtain ⟨b, off, rfl, hb1, hb2, hcc⟩ := hc 0 h0
  refine ⟨b, off, rfl, Nat.le_trans hrl hb1, hb2, fun k hk => ?_⟩
  have hk' : k < hs.length := by rw [hl]; exact hk
  obtain ⟨cs, hcl, hcs, rfl⟩ := hcc k hk'
  obtain ⟨a, b', hra, hsp, hb', -⟩ := hr k hk' hk
  exact ⟨_, hcl, hcs, hs[k].v, rfl, hsp.mono Row1.loc hra hb'⟩
theorem LR.kept {lo rl : Nat} {w w' : World} {v : Value} {xs : List (List V)} (h : LR lo rl w v xs) (hB : Below w.heap.size w w') : LR lo rl w' v xs := by
  obtain ⟨hs, hl, ho, hr⟩ := h
  exact ⟨hs, hl, Own.kept ho hB, fun i h1 h2 => by
    obtain ⟨a, b, e0, e1, e2, e3⟩ := hr i h1 h2
    exact ⟨a, b, e0, e1.below Row1.loc hB e2, Nat.le_trans e2 hB.size, e3⟩⟩
theorem LR.lower {lo lo' rl : Nat} {w : World} {v : Value} {xs : List (List V)} (h : LR lo rl w v xs) (hl' : lo' ≤ lo) : LR lo' rl w v xs := by
  obtain ⟨hs, hl, ho, hr⟩ := h
  exact ⟨hs, hl, Own.lower ho hl', hr⟩
theorem LR.lt {lo rl : Nat} {w : World} {v : Value} {xs : List (List V)} (h : LR lo rl w v xs) : ∀ k, v.ownBlock = some k → lo ≤ k ∧ k < w.heap.size := by
  obtain ⟨hs, hl, ho, hr⟩ := h
  exact Own.lt ho
/-- Rows more. -/
theorem LR.app {lo rl a0 b0 : Nat} {w : World} {v x : Value} {xs ys : List (List V)} (h : LR lo rl w v xs) (hx : Rws a0 b0 w x ys) (hra : rl ≤ a0) (hb0 : b0 ≤ w.heap.size) (ha0 : ∀ k, v.ownBlock = some k → k < a0 ∨ b0 ≤ k) (hb : xs.length + ys.length ≤ 5000000000000) (hlo : lo ≤ w.heap.size) :
    ∃ v' w', (Builtin.append_ #[23, 23] 23 #[v, x]).run Tryz.prog w = .ok v' w' ∧ LR lo rl w' v' (xs ++ ys) ∧ Appended w v w' v' := by
  obtain ⟨hs, hl, ho, hr⟩ := h
  obtain ⟨qs, hql, hq, hqr⟩ := rws_raw hx
  obtain ⟨i0, hi, hz0, hz1, hz2⟩ := info_parts infoHD
  obtain ⟨v', w', hrun, ho', hap⟩ := Own.app ho _ _ _ i0 _ 24 Tryz.underlying23 hi hz0 hz1 hz2 rfl (Src.ofSl hq (fun _ => rfl) HD.one Tryz.underlying23) (by omega) (by omega) hlo
  refine ⟨v', w', hrun, ⟨hs ++ qs, by simp [hl, hql], ho', fun i h1 h2 => ?_⟩, hap⟩
  have key : ∀ {a b : Nat} {u : Value} {l : List V}, rl ≤ a → Row1 a b w u l → b ≤ w.heap.size → (∀ k, v.ownBlock = some k → k < a ∨ b ≤ k) → ∃ a b, rl ≤ a ∧ Row1 a b w' u l ∧ b ≤ w'.heap.size ∧ ∀ k, v'.ownBlock = some k → k < a ∨ b ≤ k := by
    intro a b u l e0 e1 e2 e3
    refine ⟨a, b, e0, e1.agree Row1.loc (hap.agree e2 e3), Nat.le_trans e2 hap.grown.size, fun k hk => ?_⟩
    rcases hap.moved with e | ⟨m, e, hm⟩
    · rw [e] at hk; exact e3 k hk
    · rw [e] at hk; injection hk with hk; omega
  by_cases hi2 : i < hs.length
  · rw [List.getElem_append_left hi2, List.getElem_append_left (by omega)]
    obtain ⟨a, b, e0, e1, e2, e3⟩ := hr i hi2 (by omega)
    exact key e0 e1 e2 e3
  · rw [List.getElem_append_right (by omega), List.getElem_append_right (by omega)]
    have e : i - hs.length = i - xs.length := by omega
    have hlt : i - hs.length < qs.length := by rw [List.length_append] at h1; omega
    have := hqr (i - hs.length) hlt (by omega)
    simp only [e] at this ⊢
    exact key hra this hb0 ha0
end Go.Proofs.YtmconajkgjfplaaGreat
end

/- The document's rows: put. -/
section
set_option linter.unusedVariables false
set_option linter.unusedSimpArgs false
namespace Go.Proofs.YtmconajkgjfplaaGreat
open Go.RowKit
set_option linter.unusedVariables false
set_option linter.unusedSimpArgs false

/-- One row more. -/
theorem LR.snoc {lo rl a b : Nat} {w : World} {v : Value} {xs : List (List V)} (h : LR lo rl w v xs) (hra : rl ≤ a) (pa : Option Addr) (pc : Nat) (x : List V) (hx : Row1 a b w (.slice pa x.length pc) x) (hbw : b ≤ w.heap.size) (hk : ∀ k, v.ownBlock = some k → k < a ∨ b ≤ k) {n : Nat} (hn : n = w.heap.size) (hb : xs.length ≤ 4000000000000) (hlo : lo ≤ w.heap.size) :
    ∃ v' w', (Builtin.append_ #[23, 23] 23 #[v, .slice (some ⟨n, 0, none⟩) 1 1]).run Tryz.prog (w.alloc (.cells #[.slice pa x.length pc] 36)) = .ok v' w' ∧ LR lo rl w' v' (xs ++ [x]) ∧ Appended w v w' v' := by
  subst hn
  obtain ⟨hs, hl, ho, hr⟩ := h
  have hB := alloc_below w (.cells (HD.enc ⟨pa, x.length, pc⟩).toArray 36)
  obtain ⟨i0, hi, hz0, hz1, hz2⟩ := info_parts infoHD
  have hc := CellsAt.newAt w (HD.enc ⟨pa, x.length, pc⟩) 36 rfl
  have hsr : Src Tryz.prog 1 23 (.slice (some ⟨w.heap.size, 0, none⟩) 1 1) [(⟨pa, x.length, pc⟩ : HD)].length ([(⟨pa, x.length, pc⟩ : HD)].flatMap HD.enc) (w.alloc (.cells (HD.enc ⟨pa, x.length, pc⟩).toArray 36)) :=
    Src.ofSlice _ Tryz.underlying23 _ _ _ _ (by simp [HD.enc]) (fun j u hu => by rw [Addr.add_lit]; exact hc j u (by simpa using hu)) (fun u hu => by
      rw [List.flatMap_cons, List.flatMap_nil, List.append_nil] at hu
      exact HD.one _ u hu)
  obtain ⟨v', w', hrun, ho', hap⟩ := (Own.kept ho hB).app _ _ _ i0 _ 24 Tryz.underlying23 hi hz0 hz1 hz2 rfl hsr (by simp only [List.length_cons, List.length_nil]; omega) (by omega) (Nat.le_trans hlo hB.size)
  have hapw := (Appended.step v hB).trans hap
  refine ⟨v', w', hrun, ⟨hs ++ [⟨pa, x.length, pc⟩], by simp [hl], ho', fun i h1 h2 => ?_⟩, hapw⟩
  have key : ∀ {a b : Nat} {u : Value} {l : List V}, rl ≤ a → Row1 a b w u l → b ≤ w.heap.size → (∀ k, v.ownBlock = some k → k < a ∨ b ≤ k) → ∃ a b, rl ≤ a ∧ Row1 a b w' u l ∧ b ≤ w'.heap.size ∧ ∀ k, v'.ownBlock = some k → k < a ∨ b ≤ k := by
    intro a b u l e0 e1 e2 e3
    refine ⟨a, b, e0, e1.agree Row1.loc (hapw.agree e2 e3), Nat.le_trans e2 hapw.grown.size, fun k hk => ?_⟩
    rcases hapw.moved with e | ⟨m, e, hm⟩
    · rw [e] at hk; exact e3 k hk
    · rw [e] at hk; injection hk with hk; omega
  by_cases hi2 : i < hs.length
  · rw [List.getElem_append_left hi2, List.getElem_append_left (by omega)]
    obtain ⟨a, b, e0, e1, e2, e3⟩ := hr i hi2 (by omega)
    exact key e0 e1 e2 e3
  · have e1 : i = hs.length := by rw [List.length_append, List.length_singleton] at h1; omega
    subst e1
    rw [List.getElem_append_right (Nat.le_refl _), List.getElem_append_right (by omega)]
    simp only [hl, Nat.sub_self, List.getElem_cons_zero]
    exact key hra hx hbw hk
theorem size_RowH : ∀ w, (sizeOf (Tryz.prog.elem 23)).run Tryz.prog w = .ok 1 w := fun w => by kernel_rfl
end Go.Proofs.YtmconajkgjfplaaGreat
end

/- The document's relation of rows: made, Of. -/
section
set_option linter.unusedVariables false
set_option linter.unusedSimpArgs false
namespace Go.Proofs.YtmconajkgjfplaaGreat
open Go.RowKit
set_option linter.unusedVariables false
set_option linter.unusedSimpArgs false

end Go.Proofs.YtmconajkgjfplaaGreat
end

/- The document's relation of rows: Of. -/
section
set_option linter.unusedVariables false
set_option linter.unusedSimpArgs false
namespace Go.Proofs.YtmconajkgjfplaaGreat
open Go.RowKit
set_option linter.unusedVariables false
set_option linter.unusedSimpArgs false

end Go.Proofs.YtmconajkgjfplaaGreat
end

/- Relations that are answered, or nothing beside an error. -/
section
set_option linter.unusedVariables false
set_option linter.unusedSimpArgs false
namespace Go.Proofs.YtmconajkgjfplaaGreat
open Go.RowKit
set_option linter.unusedVariables false
set_option linter.unusedSimpArgs false

/-- What is answered beside an error: nothing, if there is one. -/
def okL {α : Type} (e : Int) (l : List α) : List α := if e = 0 then l else []
def madeErr (cols : List S) (xs : List (List V)) : Int := if 32 < cols.length ∨ 100000 < (relCanon xs).length then 140 else 0
theorem okL_ok {α : Type} {e : Int} (h : e = 0) (l : List α) : okL e l = l := if_pos h
theorem okL_no {α : Type} {e : Int} (h : e ≠ 0) (l : List α) : okL e l = [] := if_neg h
theorem madeK_any (lo lc hc : Nat) (cols : List S) (cv : Value) (xs : List (List V)) (hs : List Value) (v : Value) (w : World) (hcols : Strs lc hc w cv cols) (hhc : hc ≤ lo) (hlo : lo ≤ w.heap.size) (h : OwnR lo w v hs xs) (hlen : xs.length ≤ 1000000000000) (R : Ending → World → Prop)
    (hR : ∀ w' cv' lv hs', Below lo w w' → w.heap.size ≤ w'.heap.size → OwnT lo w' cv' (okL (madeErr cols xs) cols) → OwnR lo w' lv hs' (okL (madeErr cols xs) (relCanon xs)) → R (.returned (.tuple #[.agg #[cv', lv], .int .i64 (madeErr cols xs)])) w') :
    Calls Tryz.prog 27 #[cv, v] w R := by
  refine made_any lo lc hc cols cv xs hs v w hcols hhc hlo h hlen R (fun hb w' hB hz => ?_) (fun h1 h2 w' cv' lv hs' hB hz hT hO => ?_)
  · have e : madeErr cols xs = 140 := if_pos hb
    have := hR w' _ _ [] hB hz (by rw [e]; exact Own.nil _ _ _ _ _) (by rw [e]; exact OwnR.nil _ _)
    rw [e] at this
    exact this
  · have e : madeErr cols xs = 0 := if_neg (by omega)
    have := hR w' cv' lv hs' hB hz (by rw [e]; exact Own.lower hT hlo) (by rw [e]; exact hO)
    rw [e] at this
    exact this
/-- The end of a function that hands back a relation: its result cell is written, and read. -/
theorem relTail {w w5 : World} {b : Nat} {pc pr : Option Addr} {nc nr qc qr : Nat} {x0 x1 : Value} {cols : List S} {xs : List (List V)} {hs : List Value} (hb : Blk w5 b [x0, x1] 25) (hlo : w.heap.size ≤ b) (hB : Below w.heap.size w w5)
    (hT : OwnT w.heap.size w5 (.slice pc nc qc) cols) (hR : OwnR w.heap.size w5 (.slice pr nr qr) hs xs) :
    Below w.heap.size w ((w5.setCell ⟨b, 0, none⟩ (.slice pc nc qc)).setCell ⟨b, 1, none⟩ (.slice pr nr qr)) ∧ OwnT w.heap.size ((w5.setCell ⟨b, 0, none⟩ (.slice pc nc qc)).setCell ⟨b, 1, none⟩ (.slice pr nr qr)) (.slice pc nc qc) cols ∧
      OwnR w.heap.size ((w5.setCell ⟨b, 0, none⟩ (.slice pc nc qc)).setCell ⟨b, 1, none⟩ (.slice pr nr qr)) (.slice pr nr qr) hs xs ∧
      (loadVar 25 ⟨b, 0, none⟩).run Tryz.prog ((w5.setCell ⟨b, 0, none⟩ (.slice pc nc qc)).setCell ⟨b, 1, none⟩ (.slice pr nr qr)) = .ok (.agg #[.slice pc nc qc, .slice pr nr qr]) ((w5.setCell ⟨b, 0, none⟩ (.slice pc nc qc)).setCell ⟨b, 1, none⟩ (.slice pr nr qr)) :=
  ⟨(hB.setCell (p := ⟨b, 0, none⟩) hlo _).setCell (p := ⟨b, 1, none⟩) hlo _,
    Own.setOther (Own.setOther hT (p := ⟨b, 0, none⟩) (Own.ne_blk hT hb (by decide)) _) (p := ⟨b, 1, none⟩) (Own.ne_blk hT hb (by decide)) _,
    (hR.setBlk hb (by decide) (by decide) 0 _).setBlk (hb.set 0 _) (by decide) (by decide) 1 _,
    ((hb.set 0 (.slice pc nc qc)).set 1 (.slice pr nr qr)).cells.runVar (fun _ => by kernel_rfl) (fun _ => by kernel_rfl)⟩
theorem OfK_any (lo hi lc hc : Nat) (cols : List S) (l : List (List V)) (cv' lv : Value) (w : World) (hcols : Strs lc hc w cv' cols) (hv : Rws lo hi w lv l) (hhi : hi ≤ w.heap.size) (hhc : hc ≤ w.heap.size) (hlen1 : l.length ≤ 1000000000000) (hrl : ∀ x ∈ l, x.length ≤ 4000000000000) (R : Ending → World → Prop)
    (hR : ∀ w' cv2 lv2 hs, Below w.heap.size w w' → OwnT w.heap.size w' cv2 (okL (ofErr cols l) cols) → OwnR w.heap.size w' lv2 hs (okL (ofErr cols l) (relCanon l)) → R (.returned (.tuple #[.agg #[cv2, lv2], .int .i64 (ofErr cols l)])) w') :
    Calls Tryz.prog 23 #[cv', lv] w R := by
  refine Of_any lo hi lc hc cols l cv' lv w hcols hv hhi hhc hlen1 hrl R (fun hb w' hB => ?_) (fun h1 w' cv2 lv2 hs hB hT hO => ?_)
  · exact hR w' _ _ [] hB (by rw [okL_no hb]; exact Own.nil _ _ _ _ _) (by rw [okL_no hb]; exact OwnR.nil _ _)
  · have := hR w' cv2 lv2 hs hB (by rw [okL_ok h1]; exact hT) (by rw [okL_ok h1]; exact hO)
    rw [h1] at this
    exact this
end Go.Proofs.YtmconajkgjfplaaGreat
end
