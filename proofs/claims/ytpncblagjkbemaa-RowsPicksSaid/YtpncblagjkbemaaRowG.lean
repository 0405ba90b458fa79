/- The relation of rows: Of. (Printed by rowg.py.) -/
import Derived.Test.YtpncblagjkbemaaRowF
namespace Go.Proofs.Ytpncblagjkbemaa
open Go.RowKit
set_option linter.unusedVariables false
set_option linter.unusedSimpArgs false

set_option maxRecDepth 100000 in
set_option maxHeartbeats 4000000 in
theorem IndexFuncRow_any (lo hi : Nat) (l : List (List V)) (v : Value) (g : FuncId) (capt : Array Value) (p : List V → Bool) (w : World) (hv : Rws lo hi w v l) (hhi : hi ≤ w.heap.size)
    (he : ∀ args w, (callFunc g args).run Try.prog w = .ok (.enter g args) w)
    (hq : ∀ k (hk : k < l.length) xv w' R, Below w.heap.size w w' → Row1 lo hi w' xv l[k] → (∀ w'', Below w'.heap.size w' w'' → R (.returned (.bool (p l[k]))) w'') → Calls Try.prog g (#[xv] ++ capt) w' R)
    (R : Ending → World → Prop) (hR : ∀ w' i, Below w.heap.size w w' → (l.any p = decide (0 ≤ i)) → R (.returned (.int .i64 i)) w') : Calls Try.prog 111 #[v, .func (.func g) #[] capt] w R := by
  have HR := Lib.hid hR
  have Hv := Lib.hid hv
  have Hq := Lib.hid hq
  obtain ⟨av, cv, rfl, hcl, hcm, -, -⟩ := hv.form
  have hl63 := hv.len
  clear hR hv hq
  go_enter Try.func111, Try.ntmps111
  go_wp2_with fail
  go_loopw [8] (fun t8 wr => ∃ k : Nat, k ≤ l.length ∧ t8 = .int .i64 k ∧ (∀ i, i < k → p (l.getD i []) = false) ∧ Below w.heap.size w wr) (fun t8 _ => l.length - (intOf t8).toNat)
  case atStart => exact ⟨0, Nat.zero_le _, rfl, fun i h => absurd h (Nat.not_lt_zero _), Below.refl _ _⟩
  case round =>
    obtain ⟨k, hk, rfl, hno, hB⟩ := hrel
    obtain ⟨wo, ewo⟩ : ∃ x, x = wr := ⟨_, rfl⟩
    subst ewo
    have Hno := Lib.hid hno
    have HB := Lib.hid hB
    have hz := hB.size
    have kk0 : (0 : Int) ≤ (k : Int) := by omega
    clear hno hB
    by_cases hlt : k < l.length
    · obtain ⟨ao', cap', e', -, -, -, hc⟩ := (Sl.below Hv.out rowE_loc HB.out hhi).form
      injection e' with e1 e2 e3
      subst e1 e3
      obtain ⟨b, off, rfl, hb1, hb2, hcc⟩ := hc k hlt
      obtain ⟨cs, _, hcs, sv, rfl, hsv⟩ := hcc k hlt
      have g0 := hcs.c1
      rw [Nat.mul_one] at g0
      have kkl : (k : Int) < (l.length : Int) := by omega
      have Hsv := Lib.hid hsv
      have Hx : Hid (l.getD k [] = l[k]) := Lib.hid (getDS l _ k hlt)
      have hslv := hsv
      obtain ⟨ax, cx, rfl, -, -, -, -⟩ := hslv.form
      clear hcc hcs hc hsv hslv
      have Hq1 := Lib.hid (Hq.out k hlt)
      have Hany : Hid (p l[k] = true → l.any p = true) := Lib.hid (fun h => by rw [List.any_eq_true]; exact ⟨l[k], List.getElem_mem hlt, h⟩)
      generalize l[k] = x at *
      go_wp2_with fail
      refine Hq1.out _ wo _ HB.out Hsv.out (fun w2 hB2 => ?_)
      have HB2 := Lib.hid (HB.out.trans (hB2.mono hz))
      clear hB2
      cases hp : p x
      · have Hp := Lib.hid hp
        clear hp
        go_wp2_with fail
        go_roundw
        case rel => exact ⟨k + 1, by omega, by go_num, fun i hi => by
          by_cases e : i = k
          · subst e; rw [Hx.out]; exact Hp.out
          · exact Hno.out i (by omega), HB2.out⟩
        case measure => simp [intOf]; omega
      · have hr := HR.out w2 k HB2.out (by rw [Hany.out hp]; simp)
        clear hp
        go_wp2_with fail
        first | exact hr | exact fin hr rfl
    · obtain rfl : k = l.length := by omega
      have hr := HR.out wo (-1) HB.out (by
        have : l.any p = false := by
          rw [List.any_eq_false]
          intro x hx
          obtain ⟨i, hi, rfl⟩ := List.getElem_of_mem hx
          have := Hno.out i hi
          rw [getDS l _ i hi] at this
          simp [this]
        rw [this]; rfl)
      go_wp2_with fail
      first | exact hr | exact fin hr rfl
set_option maxRecDepth 100000 in
set_option maxHeartbeats 4000000 in
theorem ContainsFuncRow_any (lo hi : Nat) (l : List (List V)) (v : Value) (g : FuncId) (capt : Array Value) (p : List V → Bool) (w : World) (hv : Rws lo hi w v l) (hhi : hi ≤ w.heap.size)
    (he : ∀ args w, (callFunc g args).run Try.prog w = .ok (.enter g args) w)
    (hq : ∀ k (hk : k < l.length) xv w' R, Below w.heap.size w w' → Row1 lo hi w' xv l[k] → (∀ w'', Below w'.heap.size w' w'' → R (.returned (.bool (p l[k]))) w'') → Calls Try.prog g (#[xv] ++ capt) w' R)
    (R : Ending → World → Prop) (hR : ∀ w', Below w.heap.size w w' → R (.returned (.bool (l.any p))) w') : Calls Try.prog 68 #[v, .func (.func g) #[] capt] w R := by
  have HR := Lib.hid hR
  have Hv := Lib.hid hv
  have Hq := Lib.hid hq
  have He := Lib.hid he
  obtain ⟨av, cv, rfl, -, -, -, -⟩ := hv.form
  clear hR hv hq he
  go_enter Try.func68, Try.ntmps68
  go_wp2_with fail
  refine IndexFuncRow_any lo hi l _ g capt p w Hv.out hhi He.out Hq.out _ (fun w2 i hB2 hi => ?_)
  have hr := HR.out w2 hB2
  rw [hi] at hr
  clear hi hB2
  go_wp2_with fail
  first | exact hr | exact fin hr rfl
set_option maxRecDepth 100000 in
theorem Of1_any (x : List V) (cols : List S) (ax ac : Option Addr) (cx cc b : Nat) (w : World) (hb : Blk w b [.slice ac cols.length cc] 31) (R : Ending → World → Prop) (hR : R (.returned (.bool (x.length != cols.length))) w) :
    Calls Try.prog 69 #[.slice ax x.length cx, .pointer (some ⟨b, 0, none⟩)] w R := by
  have c0 := hb.cells.c1
  clear hb
  go_enter Try.func69, Try.ntmps69
  go_wp2_with fail
  exact fin hR (by congr 1; rw [Bool.eq_iff_iff]; simp; omega)
/-- May columns and rows be a relation's? -/
def fitB (cols : List S) (l : List (List V)) : Bool := onceB cols && !(l.any fun x => x.length != cols.length)
def ofErr (cols : List S) (l : List (List V)) : Int := if fitB cols l then (if 100000 < (relCanon l).length then 140 else 0) else 2
theorem once_len {cols : List S} (h : onceB cols = true) : cols.length ≤ 32 := by
  rcases Nat.lt_or_ge 32 cols.length with h2 | h2
  · unfold onceB at h
    rw [List.all_eq_true] at h
    have := h 32 (List.mem_range.2 h2)
    simp [onceAt] at this
  · exact h2
theorem gather_own (l : List (List V)) : l.filterMap some = l := List.filterMap_some
set_option maxRecDepth 100000 in
set_option maxHeartbeats 4000000 in
theorem Of_any (lo hi lc hc : Nat) (cols : List S) (l : List (List V)) (cv' lv : Value) (w : World) (hcols : Strs lc hc w cv' cols) (hv : Rws lo hi w lv l) (hhi : hi ≤ w.heap.size) (hhc : hc ≤ w.heap.size) (hlen1 : l.length ≤ 1000000000000) (hrl : ∀ x ∈ l, x.length ≤ 4000000000000) (R : Ending → World → Prop)
    (hbad : ofErr cols l ≠ 0 → ∀ w', Below w.heap.size w w' → R (.returned (.tuple #[.agg #[.slice none 0 0, .slice none 0 0], .int .i64 (ofErr cols l)])) w')
    (hok : ofErr cols l = 0 → ∀ w' cv2 lv2 hs, Below w.heap.size w w' → OwnT w.heap.size w' cv2 cols → OwnR w.heap.size w' lv2 hs (relCanon l) → R (.returned (.tuple #[.agg #[cv2, lv2], .int .i64 0])) w') :
    Calls Try.prog 26 #[cv', lv] w R := by
  have Hbad := Lib.hid hbad
  have Hok := Lib.hid hok
  have Hc := Lib.hid hcols
  have Hv := Lib.hid hv
  have Hrl := Lib.hid hrl
  obtain ⟨ac, cc, rfl, -, -, -, -⟩ := hcols.form
  obtain ⟨av, cv, rfl, -, -, -, -⟩ := hv.form
  have hlen2 : l.length ≤ 5000000000000 := by omega
  clear hbad hok hcols hv hrl
  have hB1 := alloc_below w (.cells #[.slice ac cols.length cc] 31)
  have hb1 := Blk.new w [.slice ac cols.length cc] 31 rfl
  have hs1 : (w.alloc (.cells #[.slice ac cols.length cc] 31)).heap.size = w.heap.size + 1 := by simp
  have hB2 := alloc_below (w.alloc (.cells #[.slice ac cols.length cc] 31)) (.cells #[.slice none 0 0, .slice none 0 0] 34)
  have hb2 := Blk.new (w.alloc (.cells #[.slice ac cols.length cc] 31)) [.slice none 0 0, .slice none 0 0] 34 hs1.symm
  have hb12 := hb1.below hB2 hb1.lt
  have hB := hB1.trans (hB2.mono hB1.size)
  go_enter Try.func26, Try.ntmps26
  go_upto_region 1 with fail
  generalize (w.alloc (.cells #[.slice ac cols.length cc] 31)).alloc (.cells #[.slice none 0 0, .slice none 0 0] 34) = w2 at *
  have HB := Lib.hid hB
  have Hb1 := Lib.hid hb12
  have Hb2 := Lib.hid hb2
  have hz2 := hB.size
  have hl1 := hb12.lt
  have hl2 := hb2.lt
  have c0 := hb12.cells.c1
  obtain ⟨d0, d1⟩ := hb2.cells.c2
  have f0 := hb2.free 0
  have f1 := hb2.free 1
  simp only [Nat.zero_add] at d1
  have Hrvn := Lib.hid (((hb2.set 0 (.slice none 0 0)).set 1 (.slice none 0 0)).cells.runVar (P := Try.prog) (t := 34) (fun _ => by kernel_rfl) (fun _ => by kernel_rfl))
  clear hB1 hb1 hs1 hB2 hb2 hb12 hB
  go_wp2_with fail
  refine once_any lc hc cols _ w2 (Sl.below Hc.out Strs.loc HB.out hhc) _ ?_
  cases honce : onceB cols
  · have he : ofErr cols l = 2 := by unfold ofErr fitB; rw [honce]; rfl
    have hr := Hbad.out (by rw [he]; decide) _ ((HB.out.setCell (p := ⟨w.heap.size + 1, 0, none⟩) (Nat.le_succ _) (.slice none 0 0)).setCell (p := ⟨w.heap.size + 1, 1, none⟩) (Nat.le_succ _) (.slice none 0 0))
    rw [he] at hr
    have Hr := Lib.hid hr
    clear honce he hr
    go_wp2_with fail
    exact ret_cell_tmp rfl rfl Hrvn.out rfl rfl Hr.out
  · have Hon := Lib.hid honce
    clear honce
    clear d0 d1 f0 f1
    go_wp2_with fail
    refine ContainsFuncRow_any lo hi l _ 69 #[.pointer (some ⟨w.heap.size, 0, none⟩)] (fun x => x.length != cols.length) w2 (Sl.below Hv.out rowE_loc HB.out hhi) (by omega) (enters_of Try.func69 (by kernel_rfl) rfl) (fun k hk xv w' R' hB' hx' hR' => ?_) _ (fun w3 hB3 => ?_)
    · obtain ⟨ax, cx, rfl, -, -, -, -⟩ := hx'.form
      exact Of1_any l[k] cols ax ac cx cc w.heap.size w' (Hb1.out.below hB' hl1) R' (hR' w' (Below.refl _ _))
    have HB3 := Lib.hid (HB.out.trans (hB3.mono hz2))
    have hb3 := Hb2.out.below hB3 hl2
    have hb13 := Hb1.out.below hB3 hl1
    have hz3 := HB3.out.size
    have hz23 := hB3.size
    clear hB3
    cases hany : l.any (fun x => x.length != cols.length)
    · have hfit : fitB cols l = true := by unfold fitB; rw [Hon.out, hany]; rfl
      have Hfit := Lib.hid hfit
      have c0 := hb13.cells.c1
      have hbw : w.heap.size < w3.heap.size := by omega
      have hhi3 : hi ≤ w3.heap.size := by omega
      have HB3d := Lib.hid (HB3.out.drew)
      have Hb3 := Lib.hid hb3
      clear hany hfit hb3 hb13
      go_upto_region 3 with fail
      have hS0 : Only (fun z => z = w.heap.size + 1) w3 w3.drew := Only.drew _
      refine wp_region_held_drew (S := fun w' => Only (fun z => z = w.heap.size + 1) w3 w') (by kernel_rfl) hS0 (fun hHeld => ?_)
      refine wpAnyH_take (i := 0) (v := .slice ac cols.length cc) rfl (by kernel_rfl) (by kernel_rfl) (by kernel_rfl) (fun _ _ _ h => h) (Or.inl ⟨by rfl, ?_⟩) hHeld ?_
      · intro w' hSw; have kx := (World.cell?_of_block (hSw.block w.heap.size hbw (by omega))).trans c0; go_simp
      try simp only [Act.put, List.getElem_toArray, List.getElem_cons_succ, List.getElem_cons_zero, List.setIfInBounds_toArray, List.set_cons_zero, List.set_cons_succ]
      refine wpAnyH_take (i := 1) (v := .slice av l.length cv) rfl (by kernel_rfl) (by kernel_rfl) (by kernel_rfl) (fun _ _ _ h => h) (Or.inl ⟨by rfl, ?_⟩) hHeld ?_
      · intro w' hSw; go_simp
      try simp only [Act.put, List.getElem_toArray, List.getElem_cons_succ, List.getElem_cons_zero, List.setIfInBounds_toArray, List.set_cons_zero, List.set_cons_succ]
      refine wpAnyH_ready (rs := [2]) (by kernel_rfl) (by simp) ?_
      refine allCall (f := 71) (args := #[.slice av l.length cv, .func (.func 72) #[] #[]]) rfl (by kernel_rfl) (by kernel_rfl) ?_ AllReadyH.nil
      refine gather_any lo hi l _ 72 #[] some w3.drew (Sl.below Hv.out rowE_loc HB3d.out hhi) (by exact hhi3) hlen2 (enters_of Try.func72 (by kernel_rfl) rfl) (fun k hk xv w' R' hB' hx' hR' => ?_) _ (fun w4 v4 hs4 hB4 h4 => ?_)
      · refine own_any lo hi l[k] xv w' hx' (Nat.le_trans hhi3 hB'.size) (Hrl.out _ (List.getElem_mem hk)) R' (fun w'' yv hB'' ho'' => ?_)
        obtain ⟨a, c, e⟩ := Own.slice ho''
        exact hR' w'' yv hB'' (fun _ => ho'') ⟨a, _, c, e⟩
      rw [gather_own] at h4
      have HB4 := Lib.hid hB4
      have H4 := Lib.hid h4
      refine ⟨_, rfl, hS0.trans (Below.only hB4), ?_⟩
      obtain ⟨p4, c4, e4⟩ := Own.slice h4.own
      have hl4 := h4.len
      rw [hl4] at e4
      subst e4
      clear hB4 h4 hHeld
      have hHeld := hS0.trans (Below.only (A := fun z => z = w.heap.size + 1) HB4.out)
      try simp only [Act.put, List.getElem_toArray, List.getElem_cons_succ, List.getElem_cons_zero, List.setIfInBounds_toArray, List.set_cons_zero, List.set_cons_succ]
      refine wpAnyH_ready (rs := [3]) (by kernel_rfl) (by simp) ?_
      refine allCall (f := 70) (args := #[.slice ac cols.length cc, .slice p4 l.length c4]) rfl (by kernel_rfl) (by kernel_rfl) ?_ AllReadyH.nil
      have hO34 : Only (fun z => z = w.heap.size + 1) w3 w4 := hHeld
      have hz4 : w3.heap.size ≤ w4.heap.size := HB4.out.size
      refine made_any w3.heap.size lc hc cols _ l hs4 _ w4 (Sl.below Hc.out Strs.loc ((HB3.out.trans ((Below.refl w.heap.size w3).drew)).trans (HB4.out.mono hz3)) hhc) (by omega) hz4 H4.out hlen1 _ (fun hbad w5 hB5 hz5 => ?_) (fun hok1 hok2 w5 cv5 lv5 hs5 hB5 hz5 hT5 hR5 => ?_)
      · have hB35 : Below w3.heap.size w3 w5 := (((Below.refl w3.heap.size w3).drew).trans HB4.out).trans hB5
        have hS5 := Below.only (A := fun z => z = w.heap.size + 1) hB35
        refine ⟨_, rfl, hS5, ?_⟩
        have hb5 := Hb3.out.below hB35 (by omega)
        obtain ⟨d0, d1⟩ := hb5.cells.c2
        have f0 := hb5.free 0
        have f1 := hb5.free 1
        simp only [Nat.zero_add] at d1
        have Hrv := Lib.hid (((hb5.set 0 (.slice none 0 0)).set 1 (.slice none 0 0)).cells.runVar (P := Try.prog) (t := 34) (fun _ => by kernel_rfl) (fun _ => by kernel_rfl))
        have he : ofErr cols l = 140 := by
          unfold ofErr
          rw [if_pos Hfit.out, if_pos (by rcases hbad with h | h; · have := once_len Hon.out; omega
                                          · exact h)]
        have hr := Hbad.out (by rw [he]; decide) _ (((HB3.out.trans (hB35.mono hz3)).setCell (p := ⟨w.heap.size + 1, 0, none⟩) (Nat.le_succ _) (.slice none 0 0)).setCell (p := ⟨w.heap.size + 1, 1, none⟩) (Nat.le_succ _) (.slice none 0 0))
        rw [he] at hr
        have Hr := Lib.hid hr
        clear hHeld he hr hb5
        have hHeld := hS5
        try simp only [Act.put, List.getElem_toArray, List.getElem_cons_succ, List.getElem_cons_zero, List.setIfInBounds_toArray, List.set_cons_zero, List.set_cons_succ]
        refine wpAnyH_take (i := 4) (v := .agg #[.slice none 0 0, .slice none 0 0]) rfl (by kernel_rfl) (by kernel_rfl) (by kernel_rfl) (fun _ _ _ h => h) (Or.inl ⟨by rfl, ?_⟩) hHeld ?_
        · intro w' hSw; go_simp
        try simp only [Act.put, List.getElem_toArray, List.getElem_cons_succ, List.getElem_cons_zero, List.setIfInBounds_toArray, List.set_cons_zero, List.set_cons_succ]
        refine wpAnyH_take (i := 5) (v := .int .i64 140) rfl (by kernel_rfl) (by kernel_rfl) (by kernel_rfl) (fun _ _ _ h => h) (Or.inl ⟨by rfl, ?_⟩) hHeld ?_
        · intro w' hSw; go_simp
        try simp only [Act.put, List.getElem_toArray, List.getElem_cons_succ, List.getElem_cons_zero, List.setIfInBounds_toArray, List.set_cons_zero, List.set_cons_succ]
        refine wpAnyH_ready (rs := [6]) (by kernel_rfl) (by simp) ?_
        refine allSkip (w' := (w5.setCell ⟨w.heap.size + 1, 0, none⟩ (.slice none 0 0)).setCell ⟨w.heap.size + 1, 1, none⟩ (.slice none 0 0)) rfl (by kernel_rfl) ?_ ((hHeld.trans (Only.setCell (A := fun z => z = w.heap.size + 1) w5 (p := ⟨w.heap.size + 1, 0, none⟩) rfl _)).trans (Only.setCell (A := fun z => z = w.heap.size + 1) _ (p := ⟨w.heap.size + 1, 1, none⟩) rfl _)) ?_ AllReadyH.nil
        · go_simp
        try simp only [Act.put, List.getElem_toArray, List.getElem_cons_succ, List.getElem_cons_zero, List.setIfInBounds_toArray, List.set_cons_zero, List.set_cons_succ]
        have hHeld2 := ((hHeld.trans (Only.setCell (A := fun z => z = w.heap.size + 1) w5 (p := ⟨w.heap.size + 1, 0, none⟩) rfl (.slice none 0 0))).trans (Only.setCell (A := fun z => z = w.heap.size + 1) _ (p := ⟨w.heap.size + 1, 1, none⟩) rfl (.slice none 0 0)))
        clear hHeld
        have hHeld := hHeld2
        refine wpAnyH_take (i := 7) (v := .int .i64 140) rfl (by kernel_rfl) (by kernel_rfl) (by kernel_rfl) (fun _ _ _ h => h) (Or.inl ⟨by rfl, ?_⟩) hHeld ?_
        · intro w' hSw; go_simp
        try simp only [Act.put, List.getElem_toArray, List.getElem_cons_succ, List.getElem_cons_zero, List.setIfInBounds_toArray, List.set_cons_zero, List.set_cons_succ]
        refine wpAnyH_done (by kernel_rfl) ?_ _
        clear hHeld
        go_wp2_with fail
        exact ret_cell_tmp rfl rfl Hrv.out rfl rfl Hr.out
      · have hB35 : Below w3.heap.size w3 w5 := (((Below.refl w3.heap.size w3).drew).trans HB4.out).trans hB5
        have hS5 := Below.only (A := fun z => z = w.heap.size + 1) hB35
        refine ⟨_, rfl, hS5, ?_⟩
        have hb5 := Hb3.out.below hB35 (by omega)
        obtain ⟨d0, d1⟩ := hb5.cells.c2
        have f0 := hb5.free 0
        have f1 := hb5.free 1
        simp only [Nat.zero_add] at d1
        obtain ⟨pc, qc, ec⟩ := Own.slice hT5
        obtain ⟨pr, qr, er⟩ := Own.slice hR5.own
        obtain ⟨ln, hln⟩ : ∃ ln, ln = hs5.length := ⟨_, rfl⟩
        rw [← hln] at er
        subst ec er
        have Hrv := Lib.hid (((hb5.set 0 (.slice pc cols.length qc)).set 1 (.slice pr ln qr)).cells.runVar (P := Try.prog) (t := 34) (fun _ => by kernel_rfl) (fun _ => by kernel_rfl))
        have he : ofErr cols l = 0 := by
          unfold ofErr
          rw [if_pos Hfit.out, if_neg (by omega)]
        have hz4' := hB5.size
        have hT6 := Own.setOther (Own.setOther (Own.lower hT5 (show w.heap.size ≤ w4.heap.size by omega)) (p := ⟨w.heap.size + 1, 0, none⟩) (Own.ne_blk hT5 hb5 (by decide)) (.slice pc cols.length qc)) (p := ⟨w.heap.size + 1, 1, none⟩) (Own.ne_blk hT5 hb5 (by decide)) (.slice pr ln qr)
        have hR6 := ((hR5.lower hz3).setBlk hb5 (by decide) (by decide) 0 (.slice pc cols.length qc)).setBlk (hb5.set 0 (.slice pc cols.length qc)) (by decide) (by decide) 1 (.slice pr ln qr)
        have hr := Hok.out he _ _ _ _ (((HB3.out.trans (hB35.mono hz3)).setCell (p := ⟨w.heap.size + 1, 0, none⟩) (Nat.le_succ _) (.slice pc cols.length qc)).setCell (p := ⟨w.heap.size + 1, 1, none⟩) (Nat.le_succ _) (.slice pr ln qr)) hT6 hR6
        have Hr := Lib.hid hr
        clear hHeld he hr hb5 hT6 hR6 hT5 hR5 hln
        have hHeld := hS5
        try simp only [Act.put, List.getElem_toArray, List.getElem_cons_succ, List.getElem_cons_zero, List.setIfInBounds_toArray, List.set_cons_zero, List.set_cons_succ]
        refine wpAnyH_take (i := 4) (v := .agg #[.slice pc cols.length qc, .slice pr ln qr]) rfl (by kernel_rfl) (by kernel_rfl) (by kernel_rfl) (fun _ _ _ h => h) (Or.inl ⟨by rfl, ?_⟩) hHeld ?_
        · intro w' hSw; go_simp
        try simp only [Act.put, List.getElem_toArray, List.getElem_cons_succ, List.getElem_cons_zero, List.setIfInBounds_toArray, List.set_cons_zero, List.set_cons_succ]
        refine wpAnyH_take (i := 5) (v := .int .i64 0) rfl (by kernel_rfl) (by kernel_rfl) (by kernel_rfl) (fun _ _ _ h => h) (Or.inl ⟨by rfl, ?_⟩) hHeld ?_
        · intro w' hSw; go_simp
        try simp only [Act.put, List.getElem_toArray, List.getElem_cons_succ, List.getElem_cons_zero, List.setIfInBounds_toArray, List.set_cons_zero, List.set_cons_succ]
        refine wpAnyH_ready (rs := [6]) (by kernel_rfl) (by simp) ?_
        refine allSkip (w' := (w5.setCell ⟨w.heap.size + 1, 0, none⟩ (.slice pc cols.length qc)).setCell ⟨w.heap.size + 1, 1, none⟩ (.slice pr ln qr)) rfl (by kernel_rfl) ?_ ((hHeld.trans (Only.setCell (A := fun z => z = w.heap.size + 1) w5 (p := ⟨w.heap.size + 1, 0, none⟩) rfl _)).trans (Only.setCell (A := fun z => z = w.heap.size + 1) _ (p := ⟨w.heap.size + 1, 1, none⟩) rfl _)) ?_ AllReadyH.nil
        · go_simp
        try simp only [Act.put, List.getElem_toArray, List.getElem_cons_succ, List.getElem_cons_zero, List.setIfInBounds_toArray, List.set_cons_zero, List.set_cons_succ]
        have hHeld2 := ((hHeld.trans (Only.setCell (A := fun z => z = w.heap.size + 1) w5 (p := ⟨w.heap.size + 1, 0, none⟩) rfl (.slice pc cols.length qc))).trans (Only.setCell (A := fun z => z = w.heap.size + 1) _ (p := ⟨w.heap.size + 1, 1, none⟩) rfl (.slice pr ln qr)))
        clear hHeld
        have hHeld := hHeld2
        refine wpAnyH_take (i := 7) (v := .int .i64 0) rfl (by kernel_rfl) (by kernel_rfl) (by kernel_rfl) (fun _ _ _ h => h) (Or.inl ⟨by rfl, ?_⟩) hHeld ?_
        · intro w' hSw; go_simp
        try simp only [Act.put, List.getElem_toArray, List.getElem_cons_succ, List.getElem_cons_zero, List.setIfInBounds_toArray, List.set_cons_zero, List.set_cons_succ]
        refine wpAnyH_done (by kernel_rfl) ?_ _
        clear hHeld
        go_wp2_with fail
        exact ret_cell_tmp rfl rfl Hrv.out rfl rfl Hr.out
    · have he : ofErr cols l = 2 := by unfold ofErr fitB; rw [hany]; simp
      obtain ⟨d0, d1⟩ := hb3.cells.c2
      have f0 := hb3.free 0
      have f1 := hb3.free 1
      simp only [Nat.zero_add] at d1
      have Hrv := Lib.hid (((hb3.set 0 (.slice none 0 0)).set 1 (.slice none 0 0)).cells.runVar (P := Try.prog) (t := 34) (fun _ => by kernel_rfl) (fun _ => by kernel_rfl))
      have hr := Hbad.out (by rw [he]; decide) _ ((HB3.out.setCell (p := ⟨w.heap.size + 1, 0, none⟩) (Nat.le_succ _) (.slice none 0 0)).setCell (p := ⟨w.heap.size + 1, 1, none⟩) (Nat.le_succ _) (.slice none 0 0))
      rw [he] at hr
      have Hr := Lib.hid hr
      clear hany he hr hb3 hb13
      go_wp2_with fail
      exact ret_cell_tmp rfl rfl Hrv.out rfl rfl Hr.out
end Go.Proofs.Ytpncblagjkbemaa
