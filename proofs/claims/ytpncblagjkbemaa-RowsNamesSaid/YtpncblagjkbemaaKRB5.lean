/- Texts that the proofs of RB stand on, part 5. -/
import Derived.Test.YtpncblagjkbemaaKRB4
/- The document's Project, Rename and Has. (Printed by rowy.py.) -/
section
set_option linter.unusedVariables false
set_option linter.unusedSimpArgs false
namespace Go.Proofs.Ytpncblagjkbemaa
open Go.RowKit
set_option linter.unusedVariables false
set_option linter.unusedSimpArgs false
attribute [local go_sem ↓] Go.wp_at_zero Go.wp_at_succ

theorem refMadeP_any (lo hi lc hc : Nat) (cols : List S) (ac : Option Addr) (cc : Nat) (l : List (List V)) (lv : Value) (w : World) (hcols : Strs lc hc w (.slice ac cols.length cc) cols) (hhc : hc ≤ w.heap.size) (hv : Rws lo hi w lv l) (hhi : hi ≤ w.heap.size) (hlen : l.length ≤ 1000000000000) (hrl : ∀ x ∈ l, x.length ≤ 4000000000000) (hrs : ∀ x ∈ l, ∀ a ∈ x, a.s.length ≤ 9223372036854775807) (R : Ending → World → Prop)
    (hR : ∀ w' cv2 lv2, Below w.heap.size w w' → Strs lc hc w' cv2 (okL (madeErr cols l) cols) → Rws w.heap.size w'.heap.size w' lv2 (okL (madeErr cols l) (relCanon l)) → R (.returned (.tuple #[.agg #[cv2, lv2], .int .i64 (madeErr cols l)])) w') :
    Calls Try.prog 74 #[.slice ac cols.length cc, lv] w R := by
  refine refMade_any lo hi cols ac cc l lv w hv hhi hlen hrl hrs R (fun hb w' hB => ?_) (fun h1 h2 w' lv2 hB hO => ?_)
  · have e : madeErr cols l = 140 := if_pos hb
    have := hR w' _ _ hB (by rw [e]; exact Sl.nil _ _ _ _ _) (by rw [e]; exact Sl.nil _ _ _ _ _)
    rw [e] at this
    exact this
  · have e : madeErr cols l = 0 := if_neg (by omega)
    have := hR w' _ lv2 hB (by rw [e]; exact Sl.below hcols Strs.loc hB hhc) (by rw [e]; exact hO)
    rw [e] at this
    exact this
/-- The end of a document's function that hands back a relation. -/
theorem refTail {w5 : World} {b : Nat} {pc pr : Option Addr} {nc nr qc qr : Nat} {x0 x1 : Value} (hb : Blk w5 b [x0, x1] 53) :
    (loadVar 53 ⟨b, 0, none⟩).run Try.prog ((w5.setCell ⟨b, 0, none⟩ (.slice pc nc qc)).setCell ⟨b, 1, none⟩ (.slice pr nr qr)) = .ok (.agg #[.slice pc nc qc, .slice pr nr qr]) ((w5.setCell ⟨b, 0, none⟩ (.slice pc nc qc)).setCell ⟨b, 1, none⟩ (.slice pr nr qr)) ∧
    (∀ lo hi, b < lo ∨ hi ≤ b → Agree lo hi w5 ((w5.setCell ⟨b, 0, none⟩ (.slice pc nc qc)).setCell ⟨b, 1, none⟩ (.slice pr nr qr))) ∧ ((w5.setCell ⟨b, 0, none⟩ (.slice pc nc qc)).setCell ⟨b, 1, none⟩ (.slice pr nr qr)).heap.size = w5.heap.size :=
  ⟨((hb.set 0 (.slice pc nc qc)).set 1 (.slice pr nr qr)).cells.runVar (fun _ => by kernel_rfl) (fun _ => by kernel_rfl), fun lo hi h => (Agree.setCell w5 (p := ⟨b, 0, none⟩) h _).trans (Agree.setCell _ (p := ⟨b, 1, none⟩) h _), by simp⟩
theorem pick_str {x : List V} {ks : List Int} (h : ∀ a ∈ x, a.s.length ≤ 9223372036854775807) : ∀ a ∈ pickL x ks, a.s.length ≤ 9223372036854775807 := by
  intro a ha
  obtain ⟨k, hk, rfl⟩ := List.mem_map.1 ha
  by_cases hl : k.toNat < x.length
  · rw [getDS x _ _ hl]; exact h _ (List.getElem_mem hl)
  · rw [List.getD_eq_getElem?_getD, List.getElem?_eq_none (by omega)]
    exact Nat.zero_le _
theorem pick_len (x : List V) (cols rc : List S) : (pickL x (placesL cols rc)).length = cols.length := by unfold pickL placesL; simp
set_option maxRecDepth 100000 in
set_option maxHeartbeats 4000000 in
theorem refProject_any (lo hi lc hc l2 h2 : Nat) (rc : List S) (ac : Option Addr) (cc : Nat) (l : List (List V)) (lv : Value) (cols : List S) (cv : Value) (w : World) (hrc : Strs lc hc w (.slice ac rc.length cc) rc) (hhc : hc ≤ w.heap.size) (hv : Rws lo hi w lv l) (hhi : hi ≤ w.heap.size) (hcols : Strs l2 h2 w cv cols) (hh2 : h2 ≤ w.heap.size) (hlen : cols.length ≤ 1000000000000) (hll : l.length ≤ 1000000000000) (hrs : ∀ x ∈ l, ∀ a ∈ x, a.s.length ≤ 9223372036854775807) (R : Ending → World → Prop)
    (hR : ∀ w' cv2 lv2, Below w.heap.size w w' → Strs l2 h2 w' cv2 (okL (projErr rc l cols) cols) → Rws w.heap.size w'.heap.size w' lv2 (okL (projErr rc l cols) (relCanon (l.map fun x => pickL x (placesL cols rc)))) → R (.returned (.tuple #[.agg #[cv2, lv2], .int .i64 (projErr rc l cols)])) w') :
    Calls Try.prog 31 #[.agg #[.slice ac rc.length cc, lv], cv] w R := by
  have HR := Lib.hid hR
  have Hv := Lib.hid hv
  have Hrc := Lib.hid hrc
  have Hc := Lib.hid hcols
  have Hrs := Lib.hid hrs
  obtain ⟨av, cv2, rfl, -, -, -, -⟩ := hv.form
  obtain ⟨ak, ck, rfl, -, -, -, -⟩ := hcols.form
  have hkl := hcols.len
  have hrl := hrc.len
  have hlv := hv.len
  clear hR hv hrc hcols hrs
  have hs1 : (w.alloc (.cells #[.slice ac rc.length cc, .slice av l.length cv2] 53)).heap.size = w.heap.size + 1 := by simp
  have hB1 := alloc_below w (.cells #[.slice ac rc.length cc, .slice av l.length cv2] 53)
  have hb1 := Blk.new w [.slice ac rc.length cc, .slice av l.length cv2] 53 rfl
  have hB2 := alloc_below (w.alloc (.cells #[.slice ac rc.length cc, .slice av l.length cv2] 53)) (.cells #[.slice none 0 0, .slice none 0 0] 53)
  have hb2 := Blk.new (w.alloc (.cells #[.slice ac rc.length cc, .slice av l.length cv2] 53)) [.slice none 0 0, .slice none 0 0] 53 hs1.symm
  have hb12 := hb1.below hB2 hb1.lt
  have hB := hB1.trans (hB2.mono hB1.size)
  go_enter Try.func31, Try.ntmps31
  go_upto_region 1 with fail
  generalize (w.alloc (.cells #[.slice ac rc.length cc, .slice av l.length cv2] 53)).alloc (.cells #[.slice none 0 0, .slice none 0 0] 53) = w2 at *
  have HB := Lib.hid hB
  have Hb1 := Lib.hid hb12
  have Hb2 := Lib.hid hb2
  have hz2 := hB.size
  have hl1 := hb12.lt
  have hl2 := hb2.lt
  obtain ⟨c0, c1⟩ := hb12.cells.c2
  simp only [Nat.zero_add] at c1
  clear hB1 hb1 hs1 hB2 hb2 hb12 hB
  go_wp2_with fail
  refine refMay_any lo hi lc hc rc _ _ l _ w2 (Sl.below Hrc.out Strs.loc HB.out hhc) (by omega) (Sl.below Hv.out rowE_loc HB.out hhi) (by omega) Hrs.out _ (fun w5 hB5 => ?_)
  have HB25 := Lib.hid hB5
  have hz5 := hB5.size
  have HB5 := Lib.hid (HB.out.trans (hB5.mono (by omega)))
  have hl25 : w.heap.size + 1 < w5.heap.size := by omega
  have Hb5 := Lib.hid (Hb1.out.below hB5 hl1)
  have Hb6 := Lib.hid (Hb2.out.below hB5 hl2)
  clear hB5 c0 c1
  obtain ⟨c0, c1⟩ := Hb5.out.cells.c2
  simp only [Nat.zero_add] at c1
  go_wp2_with fail
  refine within_any l2 h2 lc hc cols rc _ _ w5 (Sl.below Hc.out Strs.loc HB5.out hh2) (Sl.below Hrc.out Strs.loc HB5.out hhc) _ ?_
  go_wp2_with fail
  refine refOnce_any l2 h2 cols _ w5 (Sl.below Hc.out Strs.loc HB5.out hh2) _ ?_
  cases hm : mayRel rc l
  · obtain ⟨e0, e1⟩ := Hb6.out.cells.c2
    have f0 := Hb6.out.free 0
    have f1 := Hb6.out.free 1
    simp only [Nat.zero_add] at e1
    have he : projErr rc l cols = 2 := by unfold projErr; rw [hm]; rfl
    obtain ⟨t1, t2, t3⟩ := refTail (pc := none) (pr := none) (nc := 0) (nr := 0) (qc := 0) (qr := 0) Hb6.out
    have hr := HR.out _ _ _ ((HB5.out.setCell (p := ⟨w.heap.size + 1, 0, none⟩) (Nat.le_succ _) (.slice none 0 0)).setCell (p := ⟨w.heap.size + 1, 1, none⟩) (Nat.le_succ _) (.slice none 0 0)) (by rw [he]; exact Sl.nil _ _ _ _ _) (by rw [he]; exact Sl.nil _ _ _ _ _)
    rw [he] at hr
    have Hr := Lib.hid hr
    have Ht := Lib.hid t1
    clear hr t1 t2 t3 he hm
    go_wp2_with fail
    exact ret_cell_tmp rfl rfl Ht.out rfl rfl Hr.out
  have Hm := Lib.hid hm
  clear hm
  cases hw : withinB cols rc
  · obtain ⟨e0, e1⟩ := Hb6.out.cells.c2
    have f0 := Hb6.out.free 0
    have f1 := Hb6.out.free 1
    simp only [Nat.zero_add] at e1
    have he : projErr rc l cols = 2 := by unfold projErr; rw [hw, Hm.out]; rfl
    obtain ⟨t1, t2, t3⟩ := refTail (pc := none) (pr := none) (nc := 0) (nr := 0) (qc := 0) (qr := 0) Hb6.out
    have hr := HR.out _ _ _ ((HB5.out.setCell (p := ⟨w.heap.size + 1, 0, none⟩) (Nat.le_succ _) (.slice none 0 0)).setCell (p := ⟨w.heap.size + 1, 1, none⟩) (Nat.le_succ _) (.slice none 0 0)) (by rw [he]; exact Sl.nil _ _ _ _ _) (by rw [he]; exact Sl.nil _ _ _ _ _)
    rw [he] at hr
    have Hr := Lib.hid hr
    have Ht := Lib.hid t1
    clear hr t1 t2 t3 he hw
    go_wp2_with fail
    exact ret_cell_tmp rfl rfl Ht.out rfl rfl Hr.out
  have Hw := Lib.hid hw
  clear hw
  cases hon : onceB cols
  · obtain ⟨e0, e1⟩ := Hb6.out.cells.c2
    have f0 := Hb6.out.free 0
    have f1 := Hb6.out.free 1
    simp only [Nat.zero_add] at e1
    have he : projErr rc l cols = 2 := by unfold projErr; rw [hon, Hm.out, Hw.out]; rfl
    obtain ⟨t1, t2, t3⟩ := refTail (pc := none) (pr := none) (nc := 0) (nr := 0) (qc := 0) (qr := 0) Hb6.out
    have hr := HR.out _ _ _ ((HB5.out.setCell (p := ⟨w.heap.size + 1, 0, none⟩) (Nat.le_succ _) (.slice none 0 0)).setCell (p := ⟨w.heap.size + 1, 1, none⟩) (Nat.le_succ _) (.slice none 0 0)) (by rw [he]; exact Sl.nil _ _ _ _ _) (by rw [he]; exact Sl.nil _ _ _ _ _)
    rw [he] at hr
    have Hr := Lib.hid hr
    have Ht := Lib.hid t1
    clear hr t1 t2 t3 he hon
    go_wp2_with fail
    exact ret_cell_tmp rfl rfl Ht.out rfl rfl Hr.out
  have he : projErr rc l cols = madeErr cols (l.map fun x => pickL x (placesL cols rc)) := by unfold projErr; rw [hon, Hm.out, Hw.out]; rfl
  rw [he] at HR
  clear he hon
  go_upto_region 8 with fail
  go_loopw [9, 10] (fun t9 t10 wr => ∃ (k : Nat) (hs : List Value), k ≤ l.length ∧ t10 = .int .i64 k ∧ OwnR w5.heap.size wr t9 hs ((l.take k).map fun x => pickL x (placesL cols rc)) ∧ Below w5.heap.size w5 wr) (fun _ t10 _ => l.length - (intOf t10).toNat)
  case atStart => exact ⟨0, [], Nat.zero_le _, rfl, OwnR.nil _ _, Below.refl _ _⟩
  case round =>
    obtain ⟨k, hs, hk, rfl, ho, hB⟩ := hrel
    obtain ⟨wo, ewo⟩ : ∃ x, x = wr := ⟨_, rfl⟩
    subst ewo
    have Ho := Lib.hid ho
    have HBo := Lib.hid hB
    have HBw := Lib.hid (HB5.out.trans (hB.mono (by omega)))
    have hzo := hB.size
    have Hbo := Lib.hid (Hb5.out.below hB (by omega))
    have kk0 : (0 : Int) ≤ (k : Int) := by omega
    obtain ⟨po, co, hpo⟩ := Own.slice ho.own
    have Hsl : Hid (hs.length = k) := Lib.hid (by rw [ho.len, List.length_map, List.length_take]; omega)
    clear ho hB c0 c1
    obtain ⟨c0, c1⟩ := Hbo.out.cells.c2
    simp only [Nat.zero_add] at c1
    by_cases hlt : k < l.length
    · have kkl : (k : Int) < (l.length : Int) := by omega
      obtain ⟨b4, o4, rfl, hb4, hrow4⟩ := Rws.at (Sl.below Hv.out rowE_loc HBw.out hhi) (by omega) (by omega)
      obtain ⟨p2, c2, g2, r2⟩ := hrow4 k hlt
      have G2 := Lib.hid g2
      have R2 := Lib.hid r2
      have Hst : Hid ((l.take (k + 1)).map (fun x => pickL x (placesL cols rc)) = (l.take k).map (fun x => pickL x (placesL cols rc)) ++ [pickL l[k] (placesL cols rc)]) := Lib.hid (by rw [List.take_succ_eq_append_getElem hlt, List.map_append]; rfl)
      have Hxl : Hid (l[k].length = rc.length) := Lib.hid (may_len Hm.out _ (List.getElem_mem hlt))
      clear hrow4 g2 r2
      generalize l[k] = xb at *
      subst hpo
      go_upto_region 10 with fail
      have hS0 : Below wo.heap.size wo wo.drew := (Below.refl _ _).drew
      refine wp_region_held_drew (S := fun w' => Below wo.heap.size wo w') (by kernel_rfl) hS0 (fun hHeld => ?_)
      refine wpAnyH_take (i := 0) (v := .pointer (some ⟨w.heap.size, 1, none⟩)) rfl (by kernel_rfl) (by kernel_rfl) (by kernel_rfl) (fun _ _ _ h => h) (Or.inl ⟨by rfl, ?_⟩) hHeld ?_
      · intro w' hSw; go_simp
      try simp only [Act.put, List.getElem_toArray, List.getElem_cons_succ, List.getElem_cons_zero, List.setIfInBounds_toArray, List.set_cons_zero, List.set_cons_succ]
      refine wpAnyH_take (i := 1) (v := .slice (some ⟨b4, o4, none⟩) l.length cv2) rfl (by kernel_rfl) (by kernel_rfl) (by kernel_rfl) (fun _ _ _ h => h) (Or.inl ⟨by rfl, ?_⟩) hHeld ?_
      · intro w' hSw; obtain ⟨z0, z1⟩ := (Hbo.out.below hSw (by omega)).cells.c2; simp only [Nat.zero_add] at z1; go_simp
      try simp only [Act.put, List.getElem_toArray, List.getElem_cons_succ, List.getElem_cons_zero, List.setIfInBounds_toArray, List.set_cons_zero, List.set_cons_succ]
      refine wpAnyH_take (i := 2) (v := .int .i64 ((k : Int))) rfl (by kernel_rfl) (by kernel_rfl) (by kernel_rfl) (fun _ _ _ h => h) (Or.inl ⟨by rfl, ?_⟩) hHeld ?_
      · intro w' hSw; go_simp
      try simp only [Act.put, List.getElem_toArray, List.getElem_cons_succ, List.getElem_cons_zero, List.setIfInBounds_toArray, List.set_cons_zero, List.set_cons_succ]
      refine wpAnyH_take (i := 3) (v := .pointer (some ⟨b4, o4 + k, none⟩)) rfl (by kernel_rfl) (by kernel_rfl) (by kernel_rfl) (fun _ _ _ h => h) (Or.inl ⟨by rfl, ?_⟩) hHeld ?_
      · intro w' hSw; go_simp
      try simp only [Act.put, List.getElem_toArray, List.getElem_cons_succ, List.getElem_cons_zero, List.setIfInBounds_toArray, List.set_cons_zero, List.set_cons_succ]
      refine wpAnyH_take (i := 4) (v := .slice p2 xb.length c2) rfl (by kernel_rfl) (by kernel_rfl) (by kernel_rfl) (fun _ _ _ h => h) (Or.inl ⟨by rfl, ?_⟩) hHeld ?_
      · intro w' hSw; have kx := G2.out w' hSw; go_simp
      try simp only [Act.put, List.getElem_toArray, List.getElem_cons_succ, List.getElem_cons_zero, List.setIfInBounds_toArray, List.set_cons_zero, List.set_cons_succ]
      refine wpAnyH_take (i := 5) (v := .slice ak cols.length ck) rfl (by kernel_rfl) (by kernel_rfl) (by kernel_rfl) (fun _ _ _ h => h) (Or.inl ⟨by rfl, ?_⟩) hHeld ?_
      · intro w' hSw; go_simp
      try simp only [Act.put, List.getElem_toArray, List.getElem_cons_succ, List.getElem_cons_zero, List.setIfInBounds_toArray, List.set_cons_zero, List.set_cons_succ]
      refine wpAnyH_take (i := 6) (v := .pointer (some ⟨w.heap.size, 0, none⟩)) rfl (by kernel_rfl) (by kernel_rfl) (by kernel_rfl) (fun _ _ _ h => h) (Or.inl ⟨by rfl, ?_⟩) hHeld ?_
      · intro w' hSw; go_simp
      try simp only [Act.put, List.getElem_toArray, List.getElem_cons_succ, List.getElem_cons_zero, List.setIfInBounds_toArray, List.set_cons_zero, List.set_cons_succ]
      refine wpAnyH_take (i := 7) (v := .slice ac rc.length cc) rfl (by kernel_rfl) (by kernel_rfl) (by kernel_rfl) (fun _ _ _ h => h) (Or.inl ⟨by rfl, ?_⟩) hHeld ?_
      · intro w' hSw; obtain ⟨z0, z1⟩ := (Hbo.out.below hSw (by omega)).cells.c2; simp only [Nat.zero_add] at z1; go_simp
      try simp only [Act.put, List.getElem_toArray, List.getElem_cons_succ, List.getElem_cons_zero, List.setIfInBounds_toArray, List.set_cons_zero, List.set_cons_succ]
      refine wpAnyH_ready (rs := [8]) (by kernel_rfl) (by simp) ?_
      refine allCall (f := 79) (args := #[.slice p2 xb.length c2, .slice ak cols.length ck, .slice ac rc.length cc]) rfl (by kernel_rfl) (by kernel_rfl) ?_ AllReadyH.nil
      have HBd := Lib.hid (HBw.out.trans (hS0.mono (by omega)))
      refine refPick_any lo hi l2 h2 lc hc xb cols rc _ _ _ wo.drew (Sl.below R2.out Row1.loc hS0 (by omega)) (by show hi ≤ wo.heap.size; omega) (Sl.below Hc.out Strs.loc HBd.out hh2) (by show h2 ≤ wo.heap.size; omega) (Sl.below Hrc.out Strs.loc HBd.out hhc) (by show hc ≤ wo.heap.size; omega) Hw.out Hxl.out hlen _ (fun wq vq hBq hoq => ?_)
      have hBq' : Below wo.heap.size wo wq := hS0.trans hBq
      refine ⟨_, rfl, hBq', ?_⟩
      obtain ⟨py, hpy⟩ : ∃ py, pickL xb (placesL cols rc) = py := ⟨_, rfl⟩
      rw [hpy] at hoq Hst
      obtain ⟨pq, qq, rfl⟩ := Own.slice hoq
      have HBq := Lib.hid hBq'
      have Hoq : Hid (OwnV wo.heap.size wq (.slice pq py.length qq) py) := Lib.hid hoq
      clear hBq' hBq hoq hHeld hpy
      have hHeld := HBq.out
      try simp only [Act.put, List.getElem_toArray, List.getElem_cons_succ, List.getElem_cons_zero, List.setIfInBounds_toArray, List.set_cons_zero, List.set_cons_succ]
      refine wpAnyH_take (i := 9) (v := .slice pq py.length qq) rfl (by kernel_rfl) (by kernel_rfl) (by kernel_rfl) (fun _ _ _ h => h) (Or.inl ⟨by rfl, ?_⟩) hHeld ?_
      · intro w' hSw; go_simp
      try simp only [Act.put, List.getElem_toArray, List.getElem_cons_succ, List.getElem_cons_zero, List.setIfInBounds_toArray, List.set_cons_zero, List.set_cons_succ]
      refine wpAnyH_done (by kernel_rfl) ?_ _
      clear hHeld
      have Ho2 := Lib.hid (Ho.out.kept HBq.out)
      have hzq := HBq.out.size
      have hya : ∀ q, (Value.slice pq py.length qq).ownBlock = some q → (Value.slice po hs.length co).ownBlock ≠ some q := fun q hq2 e => by
        have h1 := (Own.lt Hoq.out q hq2).1
        have h2 := (Own.lt Ho.out.own q e).2
        omega
      obtain ⟨v3, w3, hr3, ho3, ha3⟩ := appH1 Ho2.out.own pq py.length qq rfl (by rw [Hsl.out]; omega) (by omega)
      have HO3 := Lib.hid (Ho2.out.snoc (Own.lower Hoq.out (by omega)) hya ho3 ha3)
      have HB3 := Lib.hid ((HBo.out.trans (HBq.out.mono (by omega))).trans (ha3.below (B := w5.heap.size) (by omega) (fun q e => (Own.lt Ho.out.own q e).1)))
      clear ho3 ha3 hya
      go_wp2_with (at_builtin; refine AtApp.of ?_)
      refine AtApp.go hr3 rfl rfl rfl rfl ?_
      go_wp2_with fail
      go_roundw
      case rel => exact ⟨k + 1, _, by omega, by go_num, by rw [Hst.out]; exact HO3.out, HB3.out⟩
      case measure => simp [intOf]; omega
    · obtain rfl : k = l.length := by omega
      have llt : ¬ ((l.length : Nat) : Int) < (l.length : Int) := by omega
      have hO := Ho.out
      rw [List.take_length] at hO
      have HO := Lib.hid hO
      clear hO
      have hll2 : (l.map fun x => pickL x (placesL cols rc)).length ≤ 1000000000000 := by rw [List.length_map]; exact hll
      have HB5M := Lib.hid HBo.out
      rw [Hsl.out] at hpo
      subst hpo
      go_wp2_with fail
      refine refMadeP_any w5.heap.size wo.heap.size l2 h2 cols _ _ (l.map fun x => pickL x (placesL cols rc)) _ wo (Sl.below Hc.out Strs.loc HBw.out hh2) (by omega) (OwnR.rws HO.out) (Nat.le_refl _) hll2 (fun x hx => by
        obtain ⟨y, hy, rfl⟩ := List.mem_map.1 hx
        rw [pick_len]; omega) (fun x hx => by
        obtain ⟨y, hy, rfl⟩ := List.mem_map.1 hx
        exact pick_str (Hrs.out y hy)) _ (fun w7 cv7 lv7 hB7 hT7 hO7 => ?_)
      generalize hE : madeErr cols (l.map fun x => pickL x (placesL cols rc)) = err at *
      generalize okL err cols = oc at *
      generalize okL err (relCanon (l.map fun x => pickL x (placesL cols rc))) = ol at *
      obtain ⟨p7, q7, rfl, -, -, -, -⟩ := hT7.form
      obtain ⟨p8, q8, rfl, -, -, -, -⟩ := hO7.form
      have hB57 : Below w5.heap.size w5 w7 := HB5M.out.trans (hB7.mono (by omega))
      have hb7 := Hb6.out.below hB57 hl25
      obtain ⟨e0, e1⟩ := hb7.cells.c2
      have f0 := hb7.free 0
      have f1 := hb7.free 1
      simp only [Nat.zero_add] at e1
      obtain ⟨t1, t2, t3⟩ := refTail (pc := p7) (pr := p8) (nc := oc.length) (nr := ol.length) (qc := q7) (qr := q8) hb7
      have hr := HR.out _ _ _ (((HB5.out.trans (hB57.mono (by omega))).setCell (p := ⟨w.heap.size + 1, 0, none⟩) (Nat.le_succ _) (.slice p7 oc.length q7)).setCell (p := ⟨w.heap.size + 1, 1, none⟩) (Nat.le_succ _) (.slice p8 ol.length q8)) (Sl.agree hT7 Strs.loc (t2 _ _ (.inr (by omega)))) (Sl.mono (Sl.agree hO7 rowE_loc (t2 _ _ (.inl (by omega)))) rowE_loc (by omega) (Nat.le_of_eq t3.symm))
      have Hr := Lib.hid hr
      have Ht := Lib.hid t1
      clear hr t1 t2 t3 hb7 hB57 hB7 hT7 hO7
      go_wp2_with fail
      exact ret_cell_tmp rfl rfl Ht.out rfl rfl Hr.out
set_option maxRecDepth 100000 in
set_option maxHeartbeats 4000000 in
theorem refRename_any (lo hi lc hc l2 h2 : Nat) (rc : List S) (ac : Option Addr) (cc : Nat) (l : List (List V)) (lv : Value) (cols : List S) (cv : Value) (w : World) (hrc : Strs lc hc w (.slice ac rc.length cc) rc) (hhc : hc ≤ w.heap.size) (hv : Rws lo hi w lv l) (hhi : hi ≤ w.heap.size) (hcols : Strs l2 h2 w cv cols) (hh2 : h2 ≤ w.heap.size) (hll : l.length ≤ 1000000000000) (hrs : ∀ x ∈ l, ∀ a ∈ x, a.s.length ≤ 9223372036854775807) (R : Ending → World → Prop)
    (hR : ∀ w' cv2 lv2, Below w.heap.size w w' → Strs l2 h2 w' cv2 (okL (renErr rc l cols) cols) → Rws w.heap.size w'.heap.size w' lv2 (okL (renErr rc l cols) (relCanon l)) → R (.returned (.tuple #[.agg #[cv2, lv2], .int .i64 (renErr rc l cols)])) w') :
    Calls Try.prog 34 #[.agg #[.slice ac rc.length cc, lv], cv] w R := by
  have HR := Lib.hid hR
  have Hv := Lib.hid hv
  have Hrc := Lib.hid hrc
  have Hc := Lib.hid hcols
  have Hrs := Lib.hid hrs
  obtain ⟨av, cv2, rfl, -, -, -, -⟩ := hv.form
  obtain ⟨ak, ck, rfl, -, -, -, -⟩ := hcols.form
  have hkl := hcols.len
  have hrl := hrc.len
  have hlv := hv.len
  clear hR hv hrc hcols hrs
  have hs1 : (w.alloc (.cells #[.slice ac rc.length cc, .slice av l.length cv2] 53)).heap.size = w.heap.size + 1 := by simp
  have hB1 := alloc_below w (.cells #[.slice ac rc.length cc, .slice av l.length cv2] 53)
  have hb1 := Blk.new w [.slice ac rc.length cc, .slice av l.length cv2] 53 rfl
  have hB2 := alloc_below (w.alloc (.cells #[.slice ac rc.length cc, .slice av l.length cv2] 53)) (.cells #[.slice none 0 0, .slice none 0 0] 53)
  have hb2 := Blk.new (w.alloc (.cells #[.slice ac rc.length cc, .slice av l.length cv2] 53)) [.slice none 0 0, .slice none 0 0] 53 hs1.symm
  have hb12 := hb1.below hB2 hb1.lt
  have hB := hB1.trans (hB2.mono hB1.size)
  go_enter Try.func34, Try.ntmps34
  go_upto_region 1 with fail
  generalize (w.alloc (.cells #[.slice ac rc.length cc, .slice av l.length cv2] 53)).alloc (.cells #[.slice none 0 0, .slice none 0 0] 53) = w2 at *
  have HB := Lib.hid hB
  have Hb1 := Lib.hid hb12
  have Hb2 := Lib.hid hb2
  have hz2 := hB.size
  have hl1 := hb12.lt
  have hl2 := hb2.lt
  obtain ⟨c0, c1⟩ := hb12.cells.c2
  simp only [Nat.zero_add] at c1
  clear hB1 hb1 hs1 hB2 hb2 hb12 hB
  go_wp2_with fail
  refine refMay_any lo hi lc hc rc _ _ l _ w2 (Sl.below Hrc.out Strs.loc HB.out hhc) (by omega) (Sl.below Hv.out rowE_loc HB.out hhi) (by omega) Hrs.out _ (fun w5 hB5 => ?_)
  have HB25 := Lib.hid hB5
  have hz5 := hB5.size
  have HB5 := Lib.hid (HB.out.trans (hB5.mono (by omega)))
  have hl25 : w.heap.size + 1 < w5.heap.size := by omega
  have Hb5 := Lib.hid (Hb1.out.below hB5 hl1)
  have Hb6 := Lib.hid (Hb2.out.below hB5 hl2)
  clear hB5 c0 c1
  obtain ⟨c0, c1⟩ := Hb5.out.cells.c2
  simp only [Nat.zero_add] at c1
  go_wp2_with fail
  refine refOnce_any l2 h2 cols _ w5 (Sl.below Hc.out Strs.loc HB5.out hh2) _ ?_
  cases hm : mayRel rc l
  · obtain ⟨e0, e1⟩ := Hb6.out.cells.c2
    have f0 := Hb6.out.free 0
    have f1 := Hb6.out.free 1
    simp only [Nat.zero_add] at e1
    have he : renErr rc l cols = 2 := by unfold renErr; rw [hm]; rfl
    obtain ⟨t1, t2, t3⟩ := refTail (pc := none) (pr := none) (nc := 0) (nr := 0) (qc := 0) (qr := 0) Hb6.out
    have hr := HR.out _ _ _ ((HB5.out.setCell (p := ⟨w.heap.size + 1, 0, none⟩) (Nat.le_succ _) (.slice none 0 0)).setCell (p := ⟨w.heap.size + 1, 1, none⟩) (Nat.le_succ _) (.slice none 0 0)) (by rw [he]; exact Sl.nil _ _ _ _ _) (by rw [he]; exact Sl.nil _ _ _ _ _)
    rw [he] at hr
    have Hr := Lib.hid hr
    have Ht := Lib.hid t1
    clear hr t1 t2 t3 he hm
    go_wp2_with fail
    exact ret_cell_tmp rfl rfl Ht.out rfl rfl Hr.out
  have Hm := Lib.hid hm
  clear hm
  by_cases hle : cols.length = rc.length
  case neg =>
    have c2 : ((cols.length : Int) != (rc.length : Int)) = true := by simp; omega
    obtain ⟨e0, e1⟩ := Hb6.out.cells.c2
    have f0 := Hb6.out.free 0
    have f1 := Hb6.out.free 1
    simp only [Nat.zero_add] at e1
    have he : renErr rc l cols = 2 := by unfold renErr; rw [decide_eq_false hle]; simp
    obtain ⟨t1, t2, t3⟩ := refTail (pc := none) (pr := none) (nc := 0) (nr := 0) (qc := 0) (qr := 0) Hb6.out
    have hr := HR.out _ _ _ ((HB5.out.setCell (p := ⟨w.heap.size + 1, 0, none⟩) (Nat.le_succ _) (.slice none 0 0)).setCell (p := ⟨w.heap.size + 1, 1, none⟩) (Nat.le_succ _) (.slice none 0 0)) (by rw [he]; exact Sl.nil _ _ _ _ _) (by rw [he]; exact Sl.nil _ _ _ _ _)
    rw [he] at hr
    have Hr := Lib.hid hr
    have Ht := Lib.hid t1
    clear hr t1 t2 t3 he hle
    go_wp2_with fail
    exact ret_cell_tmp rfl rfl Ht.out rfl rfl Hr.out
  have Hle : Hid (cols.length = rc.length) := Lib.hid hle
  have c2 : ((cols.length : Int) != (rc.length : Int)) = false := by simp; omega
  clear hle
  cases hon : onceB cols
  · obtain ⟨e0, e1⟩ := Hb6.out.cells.c2
    have f0 := Hb6.out.free 0
    have f1 := Hb6.out.free 1
    simp only [Nat.zero_add] at e1
    have he : renErr rc l cols = 2 := by unfold renErr; rw [hon]; simp
    obtain ⟨t1, t2, t3⟩ := refTail (pc := none) (pr := none) (nc := 0) (nr := 0) (qc := 0) (qr := 0) Hb6.out
    have hr := HR.out _ _ _ ((HB5.out.setCell (p := ⟨w.heap.size + 1, 0, none⟩) (Nat.le_succ _) (.slice none 0 0)).setCell (p := ⟨w.heap.size + 1, 1, none⟩) (Nat.le_succ _) (.slice none 0 0)) (by rw [he]; exact Sl.nil _ _ _ _ _) (by rw [he]; exact Sl.nil _ _ _ _ _)
    rw [he] at hr
    have Hr := Lib.hid hr
    have Ht := Lib.hid t1
    clear hr t1 t2 t3 he hon
    go_wp2_with fail
    exact ret_cell_tmp rfl rfl Ht.out rfl rfl Hr.out
  have he : renErr rc l cols = madeErr cols l := by unfold renErr; rw [hon, Hm.out, decide_eq_true Hle.out]; rfl
  rw [he] at HR
  have hcl := once_len hon
  clear he hon
  have HB5M : Hid (Below w5.heap.size w5 w5) := Lib.hid (Below.refl _ _)
  go_wp2_with fail
  refine refMadeP_any lo hi l2 h2 cols _ _ l _ w5 (Sl.below Hc.out Strs.loc HB5.out hh2) (by omega) (Sl.below Hv.out rowE_loc HB5.out hhi) (by omega) hll (fun x hx => by
    rw [may_len Hm.out x hx, ← Hle.out]; omega) Hrs.out _ (fun w7 cv7 lv7 hB7 hT7 hO7 => ?_)
  generalize hE : madeErr cols l = err at *
  generalize okL err cols = oc at *
  generalize okL err (relCanon l) = ol at *
  obtain ⟨p7, q7, rfl, -, -, -, -⟩ := hT7.form
  obtain ⟨p8, q8, rfl, -, -, -, -⟩ := hO7.form
  have hB57 : Below w5.heap.size w5 w7 := HB5M.out.trans (hB7.mono (by omega))
  have hb7 := Hb6.out.below hB57 hl25
  obtain ⟨e0, e1⟩ := hb7.cells.c2
  have f0 := hb7.free 0
  have f1 := hb7.free 1
  simp only [Nat.zero_add] at e1
  obtain ⟨t1, t2, t3⟩ := refTail (pc := p7) (pr := p8) (nc := oc.length) (nr := ol.length) (qc := q7) (qr := q8) hb7
  have hr := HR.out _ _ _ (((HB5.out.trans (hB57.mono (by omega))).setCell (p := ⟨w.heap.size + 1, 0, none⟩) (Nat.le_succ _) (.slice p7 oc.length q7)).setCell (p := ⟨w.heap.size + 1, 1, none⟩) (Nat.le_succ _) (.slice p8 ol.length q8)) (Sl.agree hT7 Strs.loc (t2 _ _ (.inr (by omega)))) (Sl.mono (Sl.agree hO7 rowE_loc (t2 _ _ (.inl (by omega)))) rowE_loc (by omega) (Nat.le_of_eq t3.symm))
  have Hr := Lib.hid hr
  have Ht := Lib.hid t1
  clear hr t1 t2 t3 hb7 hB57 hB7 hT7 hO7
  go_wp2_with fail
  exact ret_cell_tmp rfl rfl Ht.out rfl rfl Hr.out
set_option maxRecDepth 100000 in
set_option maxHeartbeats 4000000 in
theorem refHas_any (lo hi lc hc l2 h2 : Nat) (rc : List S) (ac : Option Addr) (cc : Nat) (l : List (List V)) (lv : Value) (x : List V) (vx : Value) (w : World) (hrc : Strs lc hc w (.slice ac rc.length cc) rc) (hhc : hc ≤ w.heap.size) (hv : Rws lo hi w lv l) (hhi : hi ≤ w.heap.size) (hx : Row1 l2 h2 w vx x) (hh2 : h2 ≤ w.heap.size) (hrs : ∀ x ∈ l, ∀ a ∈ x, a.s.length ≤ 9223372036854775807) (hxs : ∀ a ∈ x, a.s.length ≤ 9223372036854775807) (R : Ending → World → Prop)
    (hR : ∀ w', Below w.heap.size w w' → R (.returned (.bool (hasB rc l x))) w') : Calls Try.prog 40 #[.agg #[.slice ac rc.length cc, lv], vx] w R := by
  have HR := Lib.hid hR
  have Hv := Lib.hid hv
  have Hrc := Lib.hid hrc
  have Hx := Lib.hid hx
  have Hrs := Lib.hid hrs
  have Hxs := Lib.hid hxs
  obtain ⟨av, cv2, rfl, -, -, -, -⟩ := hv.form
  obtain ⟨ax, cx, rfl, -, -, -, -⟩ := hx.form
  have hlv := hv.len
  clear hR hv hrc hx hrs hxs
  go_enter Try.func40, Try.ntmps40
  go_upto_region 1 with fail
  have hBa := alloc_below w (.cells #[.slice ac rc.length cc, .slice av l.length cv2] 53)
  have hba := Blk.new w [.slice ac rc.length cc, .slice av l.length cv2] 53 rfl
  generalize w.alloc (.cells #[.slice ac rc.length cc, .slice av l.length cv2] 53) = w2 at *
  have HB := Lib.hid hBa
  have Hb1 := Lib.hid hba
  have hz2 := hBa.size
  have hl1 := hba.lt
  obtain ⟨c0, c1⟩ := hba.cells.c2
  simp only [Nat.zero_add] at c1
  clear hBa hba
  go_wp2_with fail
  refine refMay_any lo hi lc hc rc _ _ l _ w2 (Sl.below Hrc.out Strs.loc HB.out hhc) (by omega) (Sl.below Hv.out rowE_loc HB.out hhi) (by omega) Hrs.out _ (fun w5 hB5 => ?_)
  have hz5 := hB5.size
  have HB5 := Lib.hid (HB.out.trans (hB5.mono (by omega)))
  have Hb5 := Lib.hid (Hb1.out.below hB5 hl1)
  clear hB5 c0 c1
  cases hm : mayRel rc l
  · have hr := HR.out w5 HB5.out
    rw [show hasB rc l x = false by unfold hasB; rw [hm]; rfl] at hr
    clear hm
    go_wp2_with fail
    first | exact hr | exact fin hr rfl
  have he : hasB rc l x = l.any (fun y => cmpR y x == 0) := by unfold hasB; rw [hm]; rfl
  rw [he] at HR
  clear he hm
  go_wp2_with fail
  go_loopw [6] (fun t6 wr => ∃ (k : Nat), k ≤ l.length ∧ t6 = .int .i64 k ∧ (l.take k).any (fun y => cmpR y x == 0) = false ∧ Below w5.heap.size w5 wr) (fun t6 _ => l.length - (intOf t6).toNat)
  case atStart => exact ⟨0, Nat.zero_le _, rfl, rfl, Below.refl _ _⟩
  case round =>
    obtain ⟨k, hk, rfl, hno, hB⟩ := hrel
    obtain ⟨wo, ewo⟩ : ∃ x, x = wr := ⟨_, rfl⟩
    subst ewo
    have Hno := Lib.hid hno
    have HBo := Lib.hid hB
    have HBw := Lib.hid (HB5.out.trans (hB.mono (by omega)))
    have hzo := HBw.out.size
    have hz5o := hB.size
    obtain ⟨c0, c1⟩ := (Hb5.out.below hB (by omega)).cells.c2
    simp only [Nat.zero_add] at c1
    have kk0 : (0 : Int) ≤ (k : Int) := by omega
    clear hno hB
    by_cases hlt : k < l.length
    · have kkl : (k : Int) < (l.length : Int) := by omega
      obtain ⟨b4, o4, rfl, hb4, hrow4⟩ := Rws.at (Sl.below Hv.out rowE_loc HBw.out hhi) (by omega) (by omega)
      obtain ⟨p2, c2, g2, r2⟩ := hrow4 k hlt
      have g0 := g2 wo (Below.refl _ _)
      have R2 := Lib.hid r2
      have M2 := Lib.hid (Hrs.out _ (List.getElem_mem hlt))
      have Hst := Lib.hid (any_take_succ l (fun y => cmpR y x == 0) k hlt)
      have Hyes : Hid (cmpR l[k] x = 0 → l.any (fun y => cmpR y x == 0) = true) := Lib.hid (fun h => List.any_eq_true.2 ⟨_, List.getElem_mem hlt, by simp [h]⟩)
      clear hrow4 g2 r2
      generalize l[k] = xb at *
      go_wp2_with fail
      refine refRowsCompare_any lo hi l2 h2 xb x _ _ wo R2.out (Sl.below Hx.out Row1.loc HBw.out hh2) (by omega) (by omega) M2.out Hxs.out _ (fun wq hBq => ?_)
      have HBq := Lib.hid (HBo.out.trans (hBq.mono (by omega)))
      have HBqw := Lib.hid (HBw.out.trans (hBq.mono (by omega)))
      clear hBq
      by_cases h0 : cmpR xb x = 0
      · have hr := HR.out wq HBqw.out
        rw [Hyes.out h0] at hr
        rw [h0]
        clear h0 Hyes Hst
        go_wp2_with fail
        first | exact hr | exact fin hr rfl
      · have g1 : (cmpR xb x == 0) = false := by simp [h0]
        have Hnx : Hid ((l.take (k + 1)).any (fun y => cmpR y x == 0) = false) := Lib.hid (by rw [Hst.out, Hno.out, g1]; rfl)
        clear h0 Hyes Hst
        generalize cmpR xb x = cv at *
        go_wp2_with fail
        go_roundw
        case rel => exact ⟨k + 1, by omega, by go_num, Hnx.out, HBq.out⟩
        case measure => simp [intOf]; omega
    · obtain rfl : k = l.length := by omega
      have llt : ¬ ((l.length : Nat) : Int) < (l.length : Int) := by omega
      have hr := HR.out wo HBw.out
      have h := Hno.out
      rw [List.take_length] at h
      rw [h] at hr
      clear h
      go_wp2_with fail
      first | exact hr | exact fin hr rfl
end Go.Proofs.Ytpncblagjkbemaa
end

/- The document's agree. (Printed by mel.py.) -/
section
set_option linter.unusedVariables false
set_option linter.unusedSimpArgs false
namespace Go.Proofs.Ytpncblagjkbemaa
open Go.RowKit
set_option linter.unusedVariables false
set_option linter.unusedSimpArgs false
attribute [local go_sem ↓] Go.wp_at_zero Go.wp_at_succ

/-- Do rows agree in a column of the first? -/
def agS (ac bc : List S) (x y : List V) (i : Nat) : Bool := decide (placeI bc (ac.getD i []) < 0) || cmpV (x.getD i default) (y.getD (placeI bc (ac.getD i [])).toNat default) == 0
def refAgreeB (ac bc : List S) (x y : List V) : Bool := (List.range ac.length).all (agS ac bc x y)
theorem range_all_succ (p : Nat → Bool) (k : Nat) : (List.range (k + 1)).all p = ((List.range k).all p && p k) := by rw [List.range_succ, List.all_append]; simp
theorem range_all_no {p : Nat → Bool} {k n : Nat} (hk : k < n) (h : p k = false) : (List.range n).all p = false := by
  rw [List.all_eq_false]
  exact ⟨k, List.mem_range.2 hk, by rw [h]; simp⟩
set_option maxRecDepth 100000 in
set_option maxHeartbeats 4000000 in
theorem refAgree_any (la1 ha1 lb1 hbb1 lx hx ly hy : Nat) (ac bc : List S) (pa pb qa qb : Option Addr) (ca cb na da nb db : Nat) (x y : List V) (vx vy : Value) (w : World) (ha : Strs la1 ha1 w (.slice pa ac.length ca) ac) (hha : ha1 ≤ w.heap.size) (hb : Strs lb1 hbb1 w (.slice pb bc.length cb) bc) (hhb : hbb1 ≤ w.heap.size) (hxr : Row1 lx hx w vx x) (hhx : hx ≤ w.heap.size) (hyr : Row1 ly hy w vy y) (hhy : hy ≤ w.heap.size)
    (hxl : x.length = ac.length) (hyl : y.length = bc.length) (hxs : ∀ a ∈ x, a.s.length ≤ 9223372036854775807) (hys : ∀ a ∈ y, a.s.length ≤ 9223372036854775807) (hal : ac.length ≤ 1000000000000) (hbl : bc.length ≤ 1000000000000) (R : Ending → World → Prop)
    (hR : ∀ w', Below w.heap.size w w' → R (.returned (.bool (refAgreeB ac bc x y))) w') :
    Calls Try.prog 89 #[.agg #[.slice pa ac.length ca, .slice qa na da], .agg #[.slice pb bc.length cb, .slice qb nb db], vx, vy] w R := by
  have HR := Lib.hid hR
  have Ha := Lib.hid ha
  have Hb := Lib.hid hb
  have Hx := Lib.hid hxr
  have Hy := Lib.hid hyr
  have Hxs := Lib.hid hxs
  have Hys := Lib.hid hys
  have Hxl := Lib.hid hxl
  have Hyl := Lib.hid hyl
  obtain ⟨px, cx, rfl, -, -, -, -⟩ := hxr.form
  obtain ⟨py, cy, rfl, -, -, -, -⟩ := hyr.form
  clear hR ha hb hxr hyr hxs hys hxl hyl
  obtain ⟨wa, ewa⟩ : ∃ x, x = w.alloc (.cells #[.slice pa ac.length ca, .slice qa na da] 53) := ⟨_, rfl⟩
  obtain ⟨w2, ew2⟩ : ∃ x, x = wa.alloc (.cells #[.slice pb bc.length cb, .slice qb nb db] 53) := ⟨_, rfl⟩
  have sa : wa.heap.size = w.heap.size + 1 := by rw [ewa]; simp
  have hBa : Below w.heap.size w wa := by rw [ewa]; exact alloc_below _ _
  have hBb : Below wa.heap.size wa w2 := by rw [ew2]; exact alloc_below _ _
  have hb1 : Blk wa w.heap.size [.slice pa ac.length ca, .slice qa na da] 53 := by rw [ewa]; exact Blk.new w [.slice pa ac.length ca, .slice qa na da] _ rfl
  have hb2 : Blk w2 (w.heap.size + 1) [.slice pb bc.length cb, .slice qb nb db] 53 := by rw [ew2]; exact Blk.new wa [.slice pb bc.length cb, .slice qb nb db] _ sa.symm
  have hb1 := hb1.below hBb hb1.lt
  have hB := hBa.trans (hBb.mono hBa.size)
  go_enter Try.func89, Try.ntmps89
  go_upto_region 1 with fail
  rw [← ewa, ← ew2]
  have HB := Lib.hid hB
  have Hb1 := Lib.hid hb1
  have Hb2 := Lib.hid hb2
  have hz2 := hB.size
  have hl1 := hb1.lt
  have hl2 := hb2.lt
  clear ewa ew2 sa hBa hBb hb1 hb2 hB
  go_wp2_with fail
  go_loopw [9] (fun t9 wr => ∃ k : Nat, k ≤ ac.length ∧ t9 = .int .i64 k ∧ (List.range k).all (agS ac bc x y) = true ∧ Below w2.heap.size w2 wr) (fun t9 _ => ac.length - (intOf t9).toNat)
  case atStart => exact ⟨0, Nat.zero_le _, rfl, rfl, Below.refl _ _⟩
  case round =>
    obtain ⟨k, hk, rfl, hall, hB⟩ := hrel
    obtain ⟨wo, ewo⟩ : ∃ x, x = wr := ⟨_, rfl⟩
    subst ewo
    have Hall := Lib.hid hall
    have HBo := Lib.hid hB
    have HBw := Lib.hid (HB.out.trans (hB.mono (by omega)))
    have hzo := hB.size
    have Hbo1 := Lib.hid (Hb1.out.below hB hl1)
    have Hbo2 := Lib.hid (Hb2.out.below hB hl2)
    have hlo1 : w.heap.size < wo.heap.size := by omega
    have hlo2 : w.heap.size + 1 < wo.heap.size := by omega
    have kk0 : (0 : Int) ≤ (k : Int) := by omega
    clear hall hB
    obtain ⟨c0, c1⟩ := Hbo1.out.cells.c2
    simp only [Nat.zero_add] at c1
    by_cases hlt : k < ac.length
    · have kkl : (k : Int) < (ac.length : Int) := by omega
      have hak : ac.getD k [] = ac[k] := getDS ac _ k hlt
      obtain ⟨b4, o4, rfl, hb4, hst4⟩ := Strs.at (Sl.below Ha.out Strs.loc HBw.out hha) (by omega) (by omega)
      have G4 := Lib.hid (hst4 k hlt)
      have Hst := Lib.hid (range_all_succ (agS ac bc x y) k)
      have Hno : Hid (agS ac bc x y k = false → refAgreeB ac bc x y = false) := Lib.hid (fun h => range_all_no hlt h)
      have Hsk : Hid (agS ac bc x y k = (decide (placeI bc ac[k] < 0) || cmpV (x.getD k default) (y.getD (placeI bc ac[k]).toNat default) == 0)) := Lib.hid (by unfold agS; rw [hak])
      clear hst4 hak
      generalize ac[k] = s at *
      go_upto_region 4 with fail
      have hS0 : Below wo.heap.size wo wo.drew := (Below.refl _ _).drew
      refine wp_region_held_drew (S := fun w' => Below wo.heap.size wo w') (by kernel_rfl) hS0 (fun hHeld => ?_)
      refine wpAnyH_take (i := 0) (v := .pointer (some ⟨w.heap.size + 1, 0, none⟩)) rfl (by kernel_rfl) (by kernel_rfl) (by kernel_rfl) (fun _ _ _ h => h) (Or.inl ⟨by rfl, ?_⟩) hHeld ?_
      · intro w' hSw; go_simp
      try simp only [Act.put, List.getElem_toArray, List.getElem_cons_succ, List.getElem_cons_zero, List.setIfInBounds_toArray, List.set_cons_zero, List.set_cons_succ]
      refine wpAnyH_take (i := 1) (v := .slice pb bc.length cb) rfl (by kernel_rfl) (by kernel_rfl) (by kernel_rfl) (fun _ _ _ h => h) (Or.inl ⟨by rfl, ?_⟩) hHeld ?_
      · intro w' hSw; obtain ⟨z0, z1⟩ := (Hbo2.out.below hSw (by omega)).cells.c2; simp only [Nat.zero_add] at z1; go_simp
      try simp only [Act.put, List.getElem_toArray, List.getElem_cons_succ, List.getElem_cons_zero, List.setIfInBounds_toArray, List.set_cons_zero, List.set_cons_succ]
      refine wpAnyH_take (i := 2) (v := .pointer (some ⟨w.heap.size, 0, none⟩)) rfl (by kernel_rfl) (by kernel_rfl) (by kernel_rfl) (fun _ _ _ h => h) (Or.inl ⟨by rfl, ?_⟩) hHeld ?_
      · intro w' hSw; go_simp
      try simp only [Act.put, List.getElem_toArray, List.getElem_cons_succ, List.getElem_cons_zero, List.setIfInBounds_toArray, List.set_cons_zero, List.set_cons_succ]
      refine wpAnyH_take (i := 3) (v := .slice (some ⟨b4, o4, none⟩) ac.length ca) rfl (by kernel_rfl) (by kernel_rfl) (by kernel_rfl) (fun _ _ _ h => h) (Or.inl ⟨by rfl, ?_⟩) hHeld ?_
      · intro w' hSw; obtain ⟨z0, z1⟩ := (Hbo1.out.below hSw (by omega)).cells.c2; simp only [Nat.zero_add] at z1; go_simp
      try simp only [Act.put, List.getElem_toArray, List.getElem_cons_succ, List.getElem_cons_zero, List.setIfInBounds_toArray, List.set_cons_zero, List.set_cons_succ]
      refine wpAnyH_take (i := 4) (v := .int .i64 ((k : Int))) rfl (by kernel_rfl) (by kernel_rfl) (by kernel_rfl) (fun _ _ _ h => h) (Or.inl ⟨by rfl, ?_⟩) hHeld ?_
      · intro w' hSw; go_simp
      try simp only [Act.put, List.getElem_toArray, List.getElem_cons_succ, List.getElem_cons_zero, List.setIfInBounds_toArray, List.set_cons_zero, List.set_cons_succ]
      refine wpAnyH_take (i := 5) (v := .pointer (some ⟨b4, o4 + k, none⟩)) rfl (by kernel_rfl) (by kernel_rfl) (by kernel_rfl) (fun _ _ _ h => h) (Or.inl ⟨by rfl, ?_⟩) hHeld ?_
      · intro w' hSw; go_simp
      try simp only [Act.put, List.getElem_toArray, List.getElem_cons_succ, List.getElem_cons_zero, List.setIfInBounds_toArray, List.set_cons_zero, List.set_cons_succ]
      refine wpAnyH_take (i := 6) (v := .string ⟨s.toArray⟩) rfl (by kernel_rfl) (by kernel_rfl) (by kernel_rfl) (fun _ _ _ h => h) (Or.inl ⟨by rfl, ?_⟩) hHeld ?_
      · intro w' hSw; have kx := G4.out w' hSw; go_simp
      try simp only [Act.put, List.getElem_toArray, List.getElem_cons_succ, List.getElem_cons_zero, List.setIfInBounds_toArray, List.set_cons_zero, List.set_cons_succ]
      refine wpAnyH_ready (rs := [7]) (by kernel_rfl) (by simp) ?_
      refine allCall (f := 88) (args := #[.slice pb bc.length cb, .string ⟨s.toArray⟩]) rfl (by kernel_rfl) (by kernel_rfl) ?_ AllReadyH.nil
      refine place_any lb1 hbb1 bc s _ wo.drew (Sl.below Hb.out Strs.loc (HBw.out.trans (hS0.mono (by omega))) hhb) _ ?_
      refine ⟨_, rfl, hS0, ?_⟩
      try simp only [Act.put, List.getElem_toArray, List.getElem_cons_succ, List.getElem_cons_zero, List.setIfInBounds_toArray, List.set_cons_zero, List.set_cons_succ]
      refine wpAnyH_take (i := 8) (v := .int .i64 (placeI bc s)) rfl (by kernel_rfl) (by kernel_rfl) (by kernel_rfl) (fun _ _ _ h => h) (Or.inl ⟨by rfl, ?_⟩) hHeld ?_
      · intro w' hSw; go_simp
      try simp only [Act.put, List.getElem_toArray, List.getElem_cons_succ, List.getElem_cons_zero, List.setIfInBounds_toArray, List.set_cons_zero, List.set_cons_succ]
      refine wpAnyH_done (by kernel_rfl) ?_ _
      clear hHeld
      have hpl := placeI_lt bc s
      by_cases hp : placeI bc s < 0
      · have hyes : agS ac bc x y k = true := by rw [Hsk.out, decide_eq_true hp]; rfl
        have Hn : Hid ((List.range (k + 1)).all (agS ac bc x y) = true) := Lib.hid (by rw [Hst.out, Hall.out, hyes]; rfl)
        have HBd : Hid (Below w2.heap.size w2 wo.drew) := Lib.hid HBo.out.drew
        clear hyes Hst Hno Hsk hS0
        generalize placeI bc s = pq at *
        go_wp2_with fail
        go_roundw
        case rel => exact ⟨k + 1, by omega, by go_num, Hn.out, HBd.out⟩
        case measure => simp [intOf]; omega
      · obtain ⟨j, hj⟩ : ∃ j : Nat, placeI bc s = j := ⟨(placeI bc s).toNat, by omega⟩
        rw [hj] at hpl hp Hsk ⊢
        have jj0 : (0 : Int) ≤ (j : Int) := by omega
        have hjb : j < bc.length := by omega
        have hkx : k < x.length := by rw [Hxl.out]; exact hlt
        have hjy : j < y.length := by rw [Hyl.out]; exact hjb
        have kkx : (k : Int) < (x.length : Int) := by omega
        have jjy : (j : Int) < (y.length : Int) := by omega
        obtain ⟨bx, ox, rfl, hbx, hxx⟩ := Row1.at (Sl.below Hx.out Row1.loc HBw.out hhx) (by omega) (by omega)
        obtain ⟨b5, o5, rfl, hb5, hyy⟩ := Row1.at (Sl.below Hy.out Row1.loc HBw.out hhy) (by omega) (by omega)
        have Gx := Lib.hid (hxx k hkx)
        have Gy := Lib.hid (hyy j hjy)
        have hgx : x.getD k default = x[k] := getDS x _ k hkx
        have hgy : y.getD j default = y[j] := getDS y _ j hjy
        have Hma : Hid (x[k] ∈ x) := Lib.hid (List.getElem_mem hkx)
        have Hmb : Hid (y[j] ∈ y) := Lib.hid (List.getElem_mem hjy)
        have Hsk2 : Hid (agS ac bc x y k = (cmpV x[k] y[j] == 0)) := Lib.hid (by rw [Hsk.out, decide_eq_false hp, Int.toNat_natCast, hgx, hgy]; rfl)
        clear hxx hyy hgx hgy Hsk hj
        generalize x[k] = a at *
        generalize y[j] = b at *
        have HS0 := Lib.hid hS0
        clear hS0
        go_upto_region 6 with fail
        have HBo1 := Lib.hid HBo.out
        have hS0 : Below wo.heap.size wo wo.drew.drew := HS0.out.drew
        refine wp_region_held_drew (S := fun w' => Below wo.heap.size wo w') (by kernel_rfl) hS0 (fun hHeld => ?_)
        refine wpAnyH_take (i := 0) (v := .slice (some ⟨bx, ox, none⟩) x.length cx) rfl (by kernel_rfl) (by kernel_rfl) (by kernel_rfl) (fun _ _ _ h => h) (Or.inl ⟨by rfl, ?_⟩) hHeld ?_
        · intro w' hSw; go_simp
        try simp only [Act.put, List.getElem_toArray, List.getElem_cons_succ, List.getElem_cons_zero, List.setIfInBounds_toArray, List.set_cons_zero, List.set_cons_succ]
        refine wpAnyH_take (i := 1) (v := .int .i64 ((k : Int))) rfl (by kernel_rfl) (by kernel_rfl) (by kernel_rfl) (fun _ _ _ h => h) (Or.inl ⟨by rfl, ?_⟩) hHeld ?_
        · intro w' hSw; go_simp
        try simp only [Act.put, List.getElem_toArray, List.getElem_cons_succ, List.getElem_cons_zero, List.setIfInBounds_toArray, List.set_cons_zero, List.set_cons_succ]
        refine wpAnyH_take (i := 2) (v := .pointer (some ⟨bx, ox + k * 3, none⟩)) rfl (by kernel_rfl) (by kernel_rfl) (by kernel_rfl) (fun _ _ _ h => h) (Or.inl ⟨by rfl, ?_⟩) hHeld ?_
        · intro w' hSw; go_simp
        try simp only [Act.put, List.getElem_toArray, List.getElem_cons_succ, List.getElem_cons_zero, List.setIfInBounds_toArray, List.set_cons_zero, List.set_cons_succ]
        refine wpAnyH_take (i := 3) (v := .agg #[.int .i64 (a.kind), .int .i64 (a.n), .string ⟨a.s.toArray⟩]) rfl (by kernel_rfl) (by kernel_rfl) (by kernel_rfl) (fun _ _ _ h => h) (Or.inl ⟨by rfl, ?_⟩) hHeld ?_
        · intro w' hSw; obtain ⟨z0, z1, z2⟩ := (Gx.out w' hSw).c3; go_simp
        try simp only [Act.put, List.getElem_toArray, List.getElem_cons_succ, List.getElem_cons_zero, List.setIfInBounds_toArray, List.set_cons_zero, List.set_cons_succ]
        refine wpAnyH_take (i := 4) (v := .slice (some ⟨b5, o5, none⟩) y.length cy) rfl (by kernel_rfl) (by kernel_rfl) (by kernel_rfl) (fun _ _ _ h => h) (Or.inl ⟨by rfl, ?_⟩) hHeld ?_
        · intro w' hSw; go_simp
        try simp only [Act.put, List.getElem_toArray, List.getElem_cons_succ, List.getElem_cons_zero, List.setIfInBounds_toArray, List.set_cons_zero, List.set_cons_succ]
        refine wpAnyH_take (i := 5) (v := .int .i64 ((j : Int))) rfl (by kernel_rfl) (by kernel_rfl) (by kernel_rfl) (fun _ _ _ h => h) (Or.inl ⟨by rfl, ?_⟩) hHeld ?_
        · intro w' hSw; go_simp
        try simp only [Act.put, List.getElem_toArray, List.getElem_cons_succ, List.getElem_cons_zero, List.setIfInBounds_toArray, List.set_cons_zero, List.set_cons_succ]
        refine wpAnyH_take (i := 6) (v := .pointer (some ⟨b5, o5 + j * 3, none⟩)) rfl (by kernel_rfl) (by kernel_rfl) (by kernel_rfl) (fun _ _ _ h => h) (Or.inl ⟨by rfl, ?_⟩) hHeld ?_
        · intro w' hSw; go_simp
        try simp only [Act.put, List.getElem_toArray, List.getElem_cons_succ, List.getElem_cons_zero, List.setIfInBounds_toArray, List.set_cons_zero, List.set_cons_succ]
        refine wpAnyH_take (i := 7) (v := .agg #[.int .i64 (b.kind), .int .i64 (b.n), .string ⟨b.s.toArray⟩]) rfl (by kernel_rfl) (by kernel_rfl) (by kernel_rfl) (fun _ _ _ h => h) (Or.inl ⟨by rfl, ?_⟩) hHeld ?_
        · intro w' hSw; obtain ⟨z0, z1, z2⟩ := (Gy.out w' hSw).c3; go_simp
        try simp only [Act.put, List.getElem_toArray, List.getElem_cons_succ, List.getElem_cons_zero, List.setIfInBounds_toArray, List.set_cons_zero, List.set_cons_succ]
        refine wpAnyH_ready (rs := [8]) (by kernel_rfl) (by simp) ?_
        refine allCall (f := 66) (args := #[.agg #[.int .i64 a.kind, .int .i64 a.n, .string ⟨a.s.toArray⟩], .agg #[.int .i64 b.kind, .int .i64 b.n, .string ⟨b.s.toArray⟩]]) rfl (by kernel_rfl) (by kernel_rfl) ?_ AllReadyH.nil
        refine refCompare_any a b _ (Hxs.out _ Hma.out) (Hys.out _ Hmb.out) _ (fun w5 hB5 => ?_)
        refine ⟨_, rfl, hS0.trans (hB5.mono (Nat.le_refl _)), ?_⟩
        have HB5 := Lib.hid (hS0.trans (hB5.mono (Nat.le_refl _)))
        clear hB5 hHeld
        have hHeld := HB5.out
        try simp only [Act.put, List.getElem_toArray, List.getElem_cons_succ, List.getElem_cons_zero, List.setIfInBounds_toArray, List.set_cons_zero, List.set_cons_succ]
        refine wpAnyH_take (i := 9) (v := .int .i64 (cmpV a b)) rfl (by kernel_rfl) (by kernel_rfl) (by kernel_rfl) (fun _ _ _ h => h) (Or.inl ⟨by rfl, ?_⟩) hHeld ?_
        · intro w' hSw; go_simp
        try simp only [Act.put, List.getElem_toArray, List.getElem_cons_succ, List.getElem_cons_zero, List.setIfInBounds_toArray, List.set_cons_zero, List.set_cons_succ]
        refine wpAnyH_done (by kernel_rfl) ?_ _
        clear hHeld
        have HBq := Lib.hid (HBo.out.trans (HB5.out.mono (by omega)))
        have HBqw := Lib.hid (HBw.out.trans (HB5.out.mono (by omega)))
        by_cases h0 : cmpV a b = 0
        · have hyes : agS ac bc x y k = true := by rw [Hsk2.out, h0]; rfl
          have Hn : Hid ((List.range (k + 1)).all (agS ac bc x y) = true) := Lib.hid (by rw [Hst.out, Hall.out, hyes]; rfl)
          rw [h0]
          clear hyes Hst Hno Hsk2 h0 hS0
          go_wp2_with fail
          go_roundw
          case rel => exact ⟨k + 1, by omega, by go_num, Hn.out, HBq.out⟩
          case measure => simp [intOf]; omega
        · have g1 : (cmpV a b != 0) = true := by simp [h0]
          have hno : agS ac bc x y k = false := by rw [Hsk2.out]; simp [h0]
          have hr := HR.out w5 HBqw.out
          rw [Hno.out hno] at hr
          clear hno Hst Hno Hsk2 h0 hS0
          generalize cmpV a b = cv at *
          go_wp2_with fail
          first | exact hr | exact fin hr rfl
    · obtain rfl : k = ac.length := by omega
      have llt : ¬ ((ac.length : Nat) : Int) < (ac.length : Int) := by omega
      have hr := HR.out wo HBw.out
      rw [show refAgreeB ac bc x y = true from Hall.out] at hr
      go_wp2_with fail
      first | exact hr | exact fin hr rfl

end Go.Proofs.Ytpncblagjkbemaa
end

/- The document's Or. (Printed by mem.py, merf.py.) -/
section
set_option linter.unusedVariables false
set_option linter.unusedSimpArgs false
namespace Go.Proofs.Ytpncblagjkbemaa
open Go.RowKit
set_option linter.unusedVariables false
set_option linter.unusedSimpArgs false
attribute [local go_sem ↓] Go.wp_at_zero Go.wp_at_succ

set_option maxRecDepth 100000 in
set_option maxHeartbeats 4000000 in
theorem refOr_any (lca hca lra hra lcb hcb lrb hrb : Nat) (ac bc : List S) (pa pb : Option Addr) (ca cb : Nat) (la lb : List (List V)) (lva lvb : Value) (w : World) (ha : Strs lca hca w (.slice pa ac.length ca) ac) (hha : hca ≤ w.heap.size) (hla : Rws lra hra w lva la) (hhla : hra ≤ w.heap.size) (hb : Strs lcb hcb w (.slice pb bc.length cb) bc) (hhb : hcb ≤ w.heap.size) (hlb : Rws lrb hrb w lvb lb) (hhlb : hrb ≤ w.heap.size) (hras : ∀ x ∈ la, ∀ a ∈ x, a.s.length ≤ 9223372036854775807) (hrbs : ∀ x ∈ lb, ∀ a ∈ x, a.s.length ≤ 9223372036854775807) (hll : la.length ≤ 1000000) (hllb : lb.length ≤ 1000000) (R : Ending → World → Prop)
    (hR : ∀ w' cv2 lv2, Below w.heap.size w w' → Strs lca hca w' cv2 (okL (orErr ac la bc lb) ac) → Rws w.heap.size w'.heap.size w' lv2 (okL (orErr ac la bc lb) (relCanon (la ++ lb.map fun x => pickL x (placesL ac bc)))) → R (.returned (.tuple #[.agg #[cv2, lv2], .int .i64 (orErr ac la bc lb)])) w') :
    Calls Try.prog 44 #[.agg #[.slice pa ac.length ca, lva], .agg #[.slice pb bc.length cb, lvb]] w R := by
  have HR := Lib.hid hR
  have Ha := Lib.hid ha
  have Hb := Lib.hid hb
  have Hla := Lib.hid hla
  have Hlb := Lib.hid hlb
  have Hras := Lib.hid hras
  have Hrbs := Lib.hid hrbs
  obtain ⟨av, av2, rfl, -, -, -, -⟩ := hla.form
  obtain ⟨bv, bv2, rfl, -, -, -, -⟩ := hlb.form
  have hal63 := ha.len
  have hbl63 := hb.len
  clear hR ha hb hla hlb hras hrbs
  obtain ⟨wa, ewa⟩ : ∃ x, x = w.alloc (.cells #[.slice pa ac.length ca, .slice av la.length av2] 53) := ⟨_, rfl⟩
  obtain ⟨wb, ewb⟩ : ∃ x, x = wa.alloc (.cells #[.slice pb bc.length cb, .slice bv lb.length bv2] 53) := ⟨_, rfl⟩
  obtain ⟨w2, ew2⟩ : ∃ x, x = wb.alloc (.cells #[.slice none 0 0, .slice none 0 0] 53) := ⟨_, rfl⟩
  have sa : wa.heap.size = w.heap.size + 1 := by rw [ewa]; simp
  have sb : wb.heap.size = w.heap.size + 1 + 1 := by rw [ewb]; simp [sa]
  have hBa : Below w.heap.size w wa := by rw [ewa]; exact alloc_below _ _
  have hBb : Below wa.heap.size wa wb := by rw [ewb]; exact alloc_below _ _
  have hBc : Below wb.heap.size wb w2 := by rw [ew2]; exact alloc_below _ _
  have hb1 : Blk wa w.heap.size [.slice pa ac.length ca, .slice av la.length av2] 53 := by rw [ewa]; exact Blk.new w [.slice pa ac.length ca, .slice av la.length av2] _ rfl
  have hb2 : Blk wb (w.heap.size + 1) [.slice pb bc.length cb, .slice bv lb.length bv2] 53 := by rw [ewb]; exact Blk.new wa [.slice pb bc.length cb, .slice bv lb.length bv2] _ sa.symm
  have hb3 : Blk w2 (w.heap.size + 1 + 1) [.slice none 0 0, .slice none 0 0] 53 := by rw [ew2]; exact Blk.new wb [.slice none 0 0, .slice none 0 0] _ sb.symm
  have hb1 := (hb1.below hBb hb1.lt).below hBc (by omega)
  have hb2 := hb2.below hBc hb2.lt
  have hB := hBa.trans ((hBb.mono hBa.size).trans (hBc.mono (by omega)))
  go_enter Try.func44, Try.ntmps44
  go_upto_region 1 with fail
  rw [← ewa, ← ewb, ← ew2]
  clear ewa ewb ew2 hBa hBb hBc sa sb
  have HB := Lib.hid hB
  have Hb1 := Lib.hid hb1
  have Hb2 := Lib.hid hb2
  have Hb3 := Lib.hid hb3
  have hz2 := hB.size
  have hl3 := hb3.lt
  clear hb1 hb2 hb3 hB
  obtain ⟨c0, c1⟩ := Hb1.out.cells.c2
  simp only [Nat.zero_add] at c1
  go_wp2_with fail
  refine refMay_any lra hra lca hca ac _ _ la _ w2 (Sl.below Ha.out Strs.loc HB.out hha) (by omega) (Sl.below Hla.out rowE_loc HB.out hhla) (by omega) Hras.out _ (fun w5 hB5 => ?_)
  have hz5 := hB5.size
  have HA5 := Lib.hid hB5
  have HW5 := Lib.hid (HB.out.trans (hB5.mono hz2))
  clear hB5 c0 c1
  obtain ⟨c0, c1⟩ := (Hb2.out.below HA5.out (by omega)).cells.c2
  simp only [Nat.zero_add] at c1
  go_wp2_with fail
  refine refMay_any lrb hrb lcb hcb bc _ _ lb _ w5 (Sl.below Hb.out Strs.loc HW5.out hhb) (by omega) (Sl.below Hlb.out rowE_loc HW5.out hhlb) (by omega) Hrbs.out _ (fun w6 hB6 => ?_)
  have hz6 := hB6.size
  have HA6 := Lib.hid (HA5.out.trans (hB6.mono (by omega)))
  have HW6 := Lib.hid (HB.out.trans (HA6.out.mono hz2))
  clear hB6 c0 c1
  have Hd1 := Lib.hid (Hb1.out.below HA6.out (by omega))
  have Hd2 := Lib.hid (Hb2.out.below HA6.out (by omega))
  have Hd3 := Lib.hid (Hb3.out.below HA6.out hl3)
  have hld : w.heap.size + 1 + 1 < w6.heap.size := by omega
  obtain ⟨c0, c1⟩ := Hd1.out.cells.c2
  obtain ⟨d0, d1⟩ := Hd2.out.cells.c2
  simp only [Nat.zero_add] at c1 d1
  go_wp2_with fail
  refine within_any lca hca lcb hcb ac bc _ _ w6 (Sl.below Ha.out Strs.loc HW6.out hha) (Sl.below Hb.out Strs.loc HW6.out hhb) _ ?_
  cases hm : mayRel ac la
  · obtain ⟨e0, e1⟩ := Hd3.out.cells.c2
    have f0 := Hd3.out.free 0
    have f1 := Hd3.out.free 1
    simp only [Nat.zero_add] at e1
    have he : orErr ac la bc lb = 2 := by unfold orErr; rw [hm]; rfl
    obtain ⟨t1, t2, t3⟩ := refTail (pc := none) (pr := none) (nc := 0) (nr := 0) (qc := 0) (qr := 0) Hd3.out
    have hr := HR.out _ _ _ ((HW6.out.setCell (p := ⟨w.heap.size + 1 + 1, 0, none⟩) (by show w.heap.size ≤ w.heap.size + 1 + 1; omega) (.slice none 0 0)).setCell (p := ⟨w.heap.size + 1 + 1, 1, none⟩) (by show w.heap.size ≤ w.heap.size + 1 + 1; omega) (.slice none 0 0)) (by rw [he]; exact Sl.nil _ _ _ _ _) (by rw [he]; exact Sl.nil _ _ _ _ _)
    rw [he] at hr
    have Hr := Lib.hid hr
    have Ht := Lib.hid t1
    clear hr t1 t2 t3 he hm
    go_wp2_with fail
    exact ret_cell_tmp rfl rfl Ht.out rfl rfl Hr.out
  have Hm := Lib.hid hm
  clear hm
  cases hmb : mayRel bc lb
  · obtain ⟨e0, e1⟩ := Hd3.out.cells.c2
    have f0 := Hd3.out.free 0
    have f1 := Hd3.out.free 1
    simp only [Nat.zero_add] at e1
    have he : orErr ac la bc lb = 2 := by unfold orErr; rw [Hm.out, hmb]; rfl
    obtain ⟨t1, t2, t3⟩ := refTail (pc := none) (pr := none) (nc := 0) (nr := 0) (qc := 0) (qr := 0) Hd3.out
    have hr := HR.out _ _ _ ((HW6.out.setCell (p := ⟨w.heap.size + 1 + 1, 0, none⟩) (by show w.heap.size ≤ w.heap.size + 1 + 1; omega) (.slice none 0 0)).setCell (p := ⟨w.heap.size + 1 + 1, 1, none⟩) (by show w.heap.size ≤ w.heap.size + 1 + 1; omega) (.slice none 0 0)) (by rw [he]; exact Sl.nil _ _ _ _ _) (by rw [he]; exact Sl.nil _ _ _ _ _)
    rw [he] at hr
    have Hr := Lib.hid hr
    have Ht := Lib.hid t1
    clear hr t1 t2 t3 he hmb
    go_wp2_with fail
    exact ret_cell_tmp rfl rfl Ht.out rfl rfl Hr.out
  have Hmb := Lib.hid hmb
  clear hmb
  have hmca := (may_many Hm.out).2
  have hmcb := (may_many Hmb.out).2
  cases hw : withinB ac bc
  · obtain ⟨e0, e1⟩ := Hd3.out.cells.c2
    have f0 := Hd3.out.free 0
    have f1 := Hd3.out.free 1
    simp only [Nat.zero_add] at e1
    have he : orErr ac la bc lb = 2 := by unfold orErr; rw [Hm.out, Hmb.out, hw]; rfl
    obtain ⟨t1, t2, t3⟩ := refTail (pc := none) (pr := none) (nc := 0) (nr := 0) (qc := 0) (qr := 0) Hd3.out
    have hr := HR.out _ _ _ ((HW6.out.setCell (p := ⟨w.heap.size + 1 + 1, 0, none⟩) (by show w.heap.size ≤ w.heap.size + 1 + 1; omega) (.slice none 0 0)).setCell (p := ⟨w.heap.size + 1 + 1, 1, none⟩) (by show w.heap.size ≤ w.heap.size + 1 + 1; omega) (.slice none 0 0)) (by rw [he]; exact Sl.nil _ _ _ _ _) (by rw [he]; exact Sl.nil _ _ _ _ _)
    rw [he] at hr
    have Hr := Lib.hid hr
    have Ht := Lib.hid t1
    clear hr t1 t2 t3 he hw
    go_wp2_with fail
    exact ret_cell_tmp rfl rfl Ht.out rfl rfl Hr.out
  have Hw := Lib.hid hw
  clear hw
  by_cases hle : ac.length = bc.length
  case neg =>
    have c2 : ((ac.length : Int) != (bc.length : Int)) = true := by simp; omega
    obtain ⟨e0, e1⟩ := Hd3.out.cells.c2
    have f0 := Hd3.out.free 0
    have f1 := Hd3.out.free 1
    simp only [Nat.zero_add] at e1
    have he : orErr ac la bc lb = 2 := by unfold orErr; rw [Hm.out, Hmb.out, Hw.out, decide_eq_false hle]; rfl
    obtain ⟨t1, t2, t3⟩ := refTail (pc := none) (pr := none) (nc := 0) (nr := 0) (qc := 0) (qr := 0) Hd3.out
    have hr := HR.out _ _ _ ((HW6.out.setCell (p := ⟨w.heap.size + 1 + 1, 0, none⟩) (by show w.heap.size ≤ w.heap.size + 1 + 1; omega) (.slice none 0 0)).setCell (p := ⟨w.heap.size + 1 + 1, 1, none⟩) (by show w.heap.size ≤ w.heap.size + 1 + 1; omega) (.slice none 0 0)) (by rw [he]; exact Sl.nil _ _ _ _ _) (by rw [he]; exact Sl.nil _ _ _ _ _)
    rw [he] at hr
    have Hr := Lib.hid hr
    have Ht := Lib.hid t1
    clear hr t1 t2 t3 he hle
    go_wp2_with fail
    exact ret_cell_tmp rfl rfl Ht.out rfl rfl Hr.out
  have Hle : Hid (ac.length = bc.length) := Lib.hid hle
  have c2 : ((ac.length : Int) != (bc.length : Int)) = false := by simp; omega
  have he : orErr ac la bc lb = madeErr ac (la ++ lb.map fun x => pickL x (placesL ac bc)) := by unfold orErr; rw [Hm.out, Hmb.out, Hw.out, decide_eq_true hle]; rfl
  rw [he] at HR
  clear he hle
  have hla6 : Rws lra hra w6 (.slice av la.length av2) la := Sl.below Hla.out rowE_loc HW6.out hhla
  obtain ⟨v3, w3, hr3, ho3, ha3⟩ := LR.app (rl := 0) (LR.nil w6.heap.size 0 w6) hla6 (Nat.zero_le _) (by omega) (fun k e => by cases e) (by simp; omega) (Nat.le_refl _)
  rw [List.nil_append] at ho3
  have hB3 : Below w6.heap.size w6 w3 := ha3.below (Nat.le_refl _) (fun k e => by cases e)
  have HB3 := Lib.hid hB3
  have Ho3 := Lib.hid ho3
  have Hr3 := Lib.hid hr3
  clear hla6 hr3 ho3 ha3 hB3
  go_wp2_with (at_builtin; refine AtApp.of ?_)
  refine AtApp.go Hr3.out rfl rfl rfl rfl ?_
  go_wp2_with fail
  go_loopw [9, 10] (fun t9 t10 wr => ∃ (k : Nat), k ≤ lb.length ∧ t10 = .int .i64 k ∧ LR w6.heap.size 0 wr t9 (la ++ (lb.take k).map fun x => pickL x (placesL ac bc)) ∧ Below w6.heap.size w6 wr) (fun _ t10 _ => lb.length - (intOf t10).toNat)
  case atStart => exact ⟨0, Nat.zero_le _, rfl, by simpa using Ho3.out, HB3.out⟩
  case round =>
    obtain ⟨k, hk, rfl, ho, hB⟩ := hrel
    obtain ⟨wo, ewo⟩ : ∃ x, x = wr := ⟨_, rfl⟩
    subst ewo
    have Ho := Lib.hid ho
    have HBo := Lib.hid hB
    have HBw := Lib.hid (HW6.out.trans (hB.mono (by omega)))
    have hzo := hB.size
    have Hbo1 := Lib.hid (Hd1.out.below hB (by omega))
    have Hbo2 := Lib.hid (Hd2.out.below hB (by omega))
    have kk0 : (0 : Int) ≤ (k : Int) := by omega
    obtain ⟨po, co, hpo⟩ := ho.slice
    have hsl : (la ++ (lb.take k).map fun x => pickL x (placesL ac bc)).length = la.length + k := by rw [List.length_append, List.length_map, List.length_take]; omega
    rw [hsl] at hpo
    clear ho hB c0 c1 d0 d1
    obtain ⟨c0, c1⟩ := Hbo1.out.cells.c2
    obtain ⟨d0, d1⟩ := Hbo2.out.cells.c2
    simp only [Nat.zero_add] at c1 d1
    by_cases hlt : k < lb.length
    · have kkl : (k : Int) < (lb.length : Int) := by omega
      obtain ⟨b4, o4, rfl, hb4, hrow4⟩ := Rws.at (Sl.below Hlb.out rowE_loc HBw.out hhlb) (by omega) (by omega)
      obtain ⟨p2, q2, g2, r2⟩ := hrow4 k hlt
      have G2 := Lib.hid g2
      have R2 := Lib.hid r2
      have Hst : Hid ((la ++ (lb.take (k + 1)).map fun x => pickL x (placesL ac bc)) = (la ++ (lb.take k).map fun x => pickL x (placesL ac bc)) ++ [pickL lb[k] (placesL ac bc)]) := Lib.hid (by rw [List.take_succ_eq_append_getElem hlt, List.map_append, List.append_assoc]; rfl)
      have Hxl : Hid (lb[k].length = bc.length) := Lib.hid (may_len Hmb.out _ (List.getElem_mem hlt))
      clear hrow4 g2 r2
      generalize lb[k] = xb at *
      subst hpo
      go_upto_region 11 with fail
      have hS0 : Below wo.heap.size wo wo.drew := (Below.refl _ _).drew
      refine wp_region_held_drew (S := fun w' => Below wo.heap.size wo w') (by kernel_rfl) hS0 (fun hHeld => ?_)
      refine wpAnyH_take (i := 0) (v := .pointer (some ⟨w.heap.size + 1, 1, none⟩)) rfl (by kernel_rfl) (by kernel_rfl) (by kernel_rfl) (fun _ _ _ h => h) (Or.inl ⟨by rfl, ?_⟩) hHeld ?_
      · intro w' hSw; go_simp
      try simp only [Act.put, List.getElem_toArray, List.getElem_cons_succ, List.getElem_cons_zero, List.setIfInBounds_toArray, List.set_cons_zero, List.set_cons_succ]
      refine wpAnyH_take (i := 1) (v := .slice (some ⟨b4, o4, none⟩) lb.length bv2) rfl (by kernel_rfl) (by kernel_rfl) (by kernel_rfl) (fun _ _ _ h => h) (Or.inl ⟨by rfl, ?_⟩) hHeld ?_
      · intro w' hSw; obtain ⟨z0, z1⟩ := (Hbo2.out.below hSw (by omega)).cells.c2; simp only [Nat.zero_add] at z1; go_simp
      try simp only [Act.put, List.getElem_toArray, List.getElem_cons_succ, List.getElem_cons_zero, List.setIfInBounds_toArray, List.set_cons_zero, List.set_cons_succ]
      refine wpAnyH_take (i := 2) (v := .int .i64 ((k : Int))) rfl (by kernel_rfl) (by kernel_rfl) (by kernel_rfl) (fun _ _ _ h => h) (Or.inl ⟨by rfl, ?_⟩) hHeld ?_
      · intro w' hSw; go_simp
      try simp only [Act.put, List.getElem_toArray, List.getElem_cons_succ, List.getElem_cons_zero, List.setIfInBounds_toArray, List.set_cons_zero, List.set_cons_succ]
      refine wpAnyH_take (i := 3) (v := .pointer (some ⟨b4, o4 + k, none⟩)) rfl (by kernel_rfl) (by kernel_rfl) (by kernel_rfl) (fun _ _ _ h => h) (Or.inl ⟨by rfl, ?_⟩) hHeld ?_
      · intro w' hSw; go_simp
      try simp only [Act.put, List.getElem_toArray, List.getElem_cons_succ, List.getElem_cons_zero, List.setIfInBounds_toArray, List.set_cons_zero, List.set_cons_succ]
      refine wpAnyH_take (i := 4) (v := .slice p2 xb.length q2) rfl (by kernel_rfl) (by kernel_rfl) (by kernel_rfl) (fun _ _ _ h => h) (Or.inl ⟨by rfl, ?_⟩) hHeld ?_
      · intro w' hSw; have kx := G2.out w' hSw; go_simp
      try simp only [Act.put, List.getElem_toArray, List.getElem_cons_succ, List.getElem_cons_zero, List.setIfInBounds_toArray, List.set_cons_zero, List.set_cons_succ]
      refine wpAnyH_take (i := 5) (v := .pointer (some ⟨w.heap.size, 0, none⟩)) rfl (by kernel_rfl) (by kernel_rfl) (by kernel_rfl) (fun _ _ _ h => h) (Or.inl ⟨by rfl, ?_⟩) hHeld ?_
      · intro w' hSw; go_simp
      try simp only [Act.put, List.getElem_toArray, List.getElem_cons_succ, List.getElem_cons_zero, List.setIfInBounds_toArray, List.set_cons_zero, List.set_cons_succ]
      refine wpAnyH_take (i := 6) (v := .slice pa ac.length ca) rfl (by kernel_rfl) (by kernel_rfl) (by kernel_rfl) (fun _ _ _ h => h) (Or.inl ⟨by rfl, ?_⟩) hHeld ?_
      · intro w' hSw; obtain ⟨z0, z1⟩ := (Hbo1.out.below hSw (by omega)).cells.c2; simp only [Nat.zero_add] at z1; go_simp
      try simp only [Act.put, List.getElem_toArray, List.getElem_cons_succ, List.getElem_cons_zero, List.setIfInBounds_toArray, List.set_cons_zero, List.set_cons_succ]
      refine wpAnyH_take (i := 7) (v := .pointer (some ⟨w.heap.size + 1, 0, none⟩)) rfl (by kernel_rfl) (by kernel_rfl) (by kernel_rfl) (fun _ _ _ h => h) (Or.inl ⟨by rfl, ?_⟩) hHeld ?_
      · intro w' hSw; go_simp
      try simp only [Act.put, List.getElem_toArray, List.getElem_cons_succ, List.getElem_cons_zero, List.setIfInBounds_toArray, List.set_cons_zero, List.set_cons_succ]
      refine wpAnyH_take (i := 8) (v := .slice pb bc.length cb) rfl (by kernel_rfl) (by kernel_rfl) (by kernel_rfl) (fun _ _ _ h => h) (Or.inl ⟨by rfl, ?_⟩) hHeld ?_
      · intro w' hSw; obtain ⟨z0, z1⟩ := (Hbo2.out.below hSw (by omega)).cells.c2; simp only [Nat.zero_add] at z1; go_simp
      try simp only [Act.put, List.getElem_toArray, List.getElem_cons_succ, List.getElem_cons_zero, List.setIfInBounds_toArray, List.set_cons_zero, List.set_cons_succ]
      refine wpAnyH_ready (rs := [9]) (by kernel_rfl) (by simp) ?_
      refine allCall (f := 79) (args := #[.slice p2 xb.length q2, .slice pa ac.length ca, .slice pb bc.length cb]) rfl (by kernel_rfl) (by kernel_rfl) ?_ AllReadyH.nil
      have HBd := Lib.hid (HBw.out.trans (hS0.mono (by omega)))
      refine refPick_any lrb hrb lca hca lcb hcb xb ac bc _ _ _ wo.drew (Sl.below R2.out Row1.loc hS0 (by omega)) (by show hrb ≤ wo.heap.size; omega) (Sl.below Ha.out Strs.loc HBd.out hha) (by show hca ≤ wo.heap.size; omega) (Sl.below Hb.out Strs.loc HBd.out hhb) (by show hcb ≤ wo.heap.size; omega) Hw.out Hxl.out (by omega) _ (fun wq vq hBq hoq => ?_)
      have hBq' : Below wo.heap.size wo wq := hS0.trans hBq
      refine ⟨_, rfl, hBq', ?_⟩
      obtain ⟨py, hpy⟩ : ∃ py, pickL xb (placesL ac bc) = py := ⟨_, rfl⟩
      rw [hpy] at hoq Hst
      obtain ⟨pq, qq, rfl⟩ := Own.slice hoq
      have HBq := Lib.hid hBq'
      have Hoq : Hid (OwnV wo.heap.size wq (.slice pq py.length qq) py) := Lib.hid hoq
      clear hBq' hBq hoq hHeld hpy
      have hHeld := HBq.out
      try simp only [Act.put, List.getElem_toArray, List.getElem_cons_succ, List.getElem_cons_zero, List.setIfInBounds_toArray, List.set_cons_zero, List.set_cons_succ]
      refine wpAnyH_take (i := 10) (v := .slice pq py.length qq) rfl (by kernel_rfl) (by kernel_rfl) (by kernel_rfl) (fun _ _ _ h => h) (Or.inl ⟨by rfl, ?_⟩) hHeld ?_
      · intro w' hSw; go_simp
      try simp only [Act.put, List.getElem_toArray, List.getElem_cons_succ, List.getElem_cons_zero, List.setIfInBounds_toArray, List.set_cons_zero, List.set_cons_succ]
      refine wpAnyH_done (by kernel_rfl) ?_ _
      clear hHeld
      have Ho2 := Lib.hid (Ho.out.kept HBq.out)
      have hzq := HBq.out.size
      obtain ⟨v3, w3, hr3, ho3, ha3⟩ := LR.snoc Ho2.out (Nat.zero_le wo.heap.size) pq qq py (OwnV.sl Hoq.out) (Nat.le_refl _) (fun q e => .inl (by have := (Ho.out.lt q e).2; omega)) rfl (by rw [hsl]; omega) (by omega)
      have HO3 := Lib.hid ho3
      have HB3 := Lib.hid ((HBo.out.trans (HBq.out.mono (by omega))).trans (ha3.below (B := w6.heap.size) (by omega) (fun q e => (Ho.out.lt q e).1)))
      clear ho3 ha3
      go_wp2_with (at_builtin; refine AtApp.of ?_)
      refine AtApp.go hr3 rfl rfl rfl rfl ?_
      go_wp2_with fail
      go_roundw
      case rel => exact ⟨k + 1, by omega, by go_num, by rw [Hst.out]; exact HO3.out, HB3.out⟩
      case measure => simp [intOf]; omega
    · obtain rfl : k = lb.length := by omega
      have llt : ¬ ((lb.length : Nat) : Int) < (lb.length : Int) := by omega
      have hO := Ho.out
      rw [List.take_length] at hO hsl
      have HO := Lib.hid hO
      clear hO
      have hll2 : (la ++ lb.map fun x => pickL x (placesL ac bc)).length ≤ 1000000000000 := by rw [hsl]; omega
      have HBm := Lib.hid HBo.out
      subst hpo
      go_wp2_with fail
      obtain ⟨wm, ewm⟩ : ∃ x, x = wo := ⟨_, rfl⟩
      subst ewm
      refine refMadeP_any 0 wm.heap.size lca hca ac _ _ (la ++ lb.map fun x => pickL x (placesL ac bc)) _ wm (Sl.below Ha.out Strs.loc HBw.out hha) (by omega) (HO.out.rws (Nat.zero_le _)) (Nat.le_refl _) hll2 (fun x hx => by
        rcases List.mem_append.1 hx with hx | hx
        · rw [may_len Hm.out x hx]; omega
        · obtain ⟨y, hy, rfl⟩ := List.mem_map.1 hx
          rw [pick_len]; omega) (fun x hx => by
        rcases List.mem_append.1 hx with hx | hx
        · exact Hras.out x hx
        · obtain ⟨y, hy, rfl⟩ := List.mem_map.1 hx
          exact pick_str (Hrbs.out y hy)) _ (fun w7 cv7 lv7 hB7 hT7 hO7 => ?_)
      generalize hE : madeErr ac (la ++ lb.map fun x => pickL x (placesL ac bc)) = err at *
      generalize okL err ac = oc at *
      generalize okL err (relCanon (la ++ lb.map fun x => pickL x (placesL ac bc))) = ol at *
      obtain ⟨p7, q7, rfl, -, -, -, -⟩ := hT7.form
      obtain ⟨p8, q8, rfl, -, -, -, -⟩ := hO7.form
      have hzm := HBm.out.size
      have hB67 : Below w6.heap.size w6 w7 := HBm.out.trans (hB7.mono hzm)
      have hb7 := Hd3.out.below hB67 hld
      obtain ⟨e0, e1⟩ := hb7.cells.c2
      have f0 := hb7.free 0
      have f1 := hb7.free 1
      simp only [Nat.zero_add] at e1
      obtain ⟨t1, t2, t3⟩ := refTail (pc := p7) (pr := p8) (nc := oc.length) (nr := ol.length) (qc := q7) (qr := q8) hb7
      have hsz7 : w6.heap.size ≤ w7.heap.size := hB67.size
      have hwm : wm.heap.size ≤ w7.heap.size := hB7.size
      have hr := HR.out _ _ _ (((HW6.out.trans (hB67.mono (by omega))).setCell (p := ⟨w.heap.size + 1 + 1, 0, none⟩) (by show w.heap.size ≤ w.heap.size + 1 + 1; omega) (.slice p7 oc.length q7)).setCell (p := ⟨w.heap.size + 1 + 1, 1, none⟩) (by show w.heap.size ≤ w.heap.size + 1 + 1; omega) (.slice p8 ol.length q8)) (Sl.agree hT7 Strs.loc (t2 _ _ (.inr (by omega)))) (Sl.mono (Sl.agree hO7 rowE_loc (t2 _ _ (.inl (by omega)))) rowE_loc (by omega) (Nat.le_of_eq t3.symm))
      have Hr := Lib.hid hr
      have Ht := Lib.hid t1
      clear hr t1 t2 t3 hb7 hB67 hB7 hT7 hO7
      go_wp2_with fail
      exact ret_cell_tmp rfl rfl Ht.out rfl rfl Hr.out

end Go.Proofs.Ytpncblagjkbemaa
end

/- Rows agree as the document has it, and as the code has it. -/
section
set_option linter.unusedVariables false
set_option linter.unusedSimpArgs false
namespace Go.Proofs.Ytpncblagjkbemaa
open Go.RowKit
set_option linter.unusedVariables false

theorem placeI_at {l : List S} {c : S} (h : 0 ≤ placeI l c) : ∃ i, ∃ h : i < l.length, placeI l c = (i : Int) ∧ l[i] = c := by
  unfold placeI at h ⊢
  cases hf : l.findIdx? (· == c) with
  | none => rw [hf] at h; simp at h
  | some i =>
    obtain ⟨h1, h2, -⟩ := List.findIdx?_eq_some_iff_getElem.1 hf
    exact ⟨i, h1, rfl, by simpa using h2⟩
theorem once_place {l : List S} (h : onceB l = true) (i : Nat) (hi : i < l.length) : placeI l l[i] = (i : Int) := by
  unfold onceB at h
  have := List.all_eq_true.1 h i (List.mem_range.2 hi)
  unfold onceAt at this
  simp only [getDS l _ i hi, Bool.and_eq_true, beq_iff_eq, decide_eq_true_eq] at this
  exact this.2
theorem agree_same {ac bc : List S} (x y : List V) (ho : onceB ac = true) : refAgreeB ac bc x y = agreeR ac bc x y := by
  have hd : ∀ u v : V, (cmpV u v == 0) = true ↔ u = v := fun u v => by rw [beq_iff_eq]; exact cmpV_cmp.zero u v
  rw [Bool.eq_iff_iff]
  have h2 : agreeR ac bc x y = true ↔ ∀ c ∈ commonC ac bc, y.getD (placeI bc c).toNat default = x.getD (placeI ac c).toNat default := by
    unfold agreeR
    rw [beq_iff_eq, cmpR_cmp.zero]
    unfold pickL placesL
    rw [List.map_map, List.map_map, List.map_inj_left]
    rfl
  rw [h2]
  unfold refAgreeB
  rw [List.all_eq_true]
  constructor
  · intro h c hc
    obtain ⟨hcb, hca⟩ := List.mem_filter.1 hc
    obtain ⟨i, hi, e1, e2⟩ := placeI_at (of_decide_eq_true hca)
    have h3 := h i (List.mem_range.2 hi)
    unfold agS at h3
    rw [getDS ac _ i hi, e2, Bool.or_eq_true, hd] at h3
    rcases h3 with h3 | h3
    · have := placeI_mem hcb
      have := of_decide_eq_true h3
      omega
    · rw [e1, Int.toNat_natCast]; exact h3.symm
  · intro h i hi
    have hi := List.mem_range.1 hi
    unfold agS
    rw [getDS ac _ i hi, Bool.or_eq_true, hd]
    by_cases hp : placeI bc ac[i] < 0
    · exact .inl (decide_eq_true hp)
    · obtain ⟨j, hj, e1, e2⟩ := placeI_at (show 0 ≤ placeI bc ac[i] by omega)
      have hm : ac[i] ∈ commonC ac bc := List.mem_filter.2 ⟨by rw [← e2]; exact List.getElem_mem hj, decide_eq_true (placeI_mem (List.getElem_mem hi))⟩
      have h3 := h _ hm
      rw [once_place ho i hi, Int.toNat_natCast] at h3
      exact .inr h3.symm
theorem may_once {cols : List S} {l : List (List V)} (h : mayRel cols l = true) : onceB cols = true := by
  unfold mayRel at h
  simp only [Bool.and_eq_true] at h
  first | exact h.1.1 | exact h.1
end Go.Proofs.Ytpncblagjkbemaa
end

/- What relations are together, in plain words: joined with themselves, in the other order, and parted. -/
section
set_option linter.unusedVariables false
set_option linter.unusedSimpArgs false
namespace Go.Proofs.Ytpncblagjkbemaa
open Go.RowKit
set_option linter.unusedVariables false
set_option linter.unusedSimpArgs false

/-- The value of a column in a row. -/
def valC (cols : List S) (x : List V) (c : S) : V := x.getD (placeI cols c).toNat default
theorem pick_val (x : List V) (cs of : List S) : pickL x (placesL cs of) = cs.map (valC of x) := by
  unfold pickL placesL
  rw [List.map_map]
  rfl
theorem place_mem_iff {l : List S} {c : S} : 0 ≤ placeI l c ↔ c ∈ l :=
  ⟨fun h => by obtain ⟨i, hi, -, rfl⟩ := placeI_at h; exact List.getElem_mem hi, placeI_mem⟩
theorem val_self {cols : List S} {x : List V} (ho : onceB cols = true) (hl : x.length = cols.length) : cols.map (valC cols x) = x := by
  apply List.ext_getElem (by simp [hl])
  intro i h1 h2
  rw [List.getElem_map]
  unfold valC
  rw [once_place ho i (by simpa using h1), Int.toNat_natCast, getDS x _ i h2]
theorem val_map {cs : List S} (f : S → V) {c : S} (hc : c ∈ cs) : valC cs (cs.map f) c = f c := by
  obtain ⟨i, hi, e, he⟩ := placeI_at (placeI_mem hc)
  unfold valC
  rw [e, Int.toNat_natCast, getDS _ _ i (by simpa using hi), List.getElem_map, he]
theorem place_none {l : List S} {c : S} (h : c ∉ l) : l.findIdx? (· == c) = none := by
  rw [List.findIdx?_eq_none_iff]
  intro x hx
  simp only [beq_eq_false_iff_ne]
  rintro rfl
  exact h hx
theorem place_left {a b : List S} {c : S} (hc : c ∈ a) : placeI (a ++ b) c = placeI a c := by
  have h0 := placeI_mem hc
  unfold placeI at h0 ⊢
  rw [List.findIdx?_append]
  cases hf : a.findIdx? (· == c) with
  | none => rw [hf] at h0; simp at h0
  | some i => simp
theorem place_right {a b : List S} {c : S} (hc : c ∉ a) (hb : c ∈ b) : placeI (a ++ b) c = a.length + placeI b c := by
  have h0 := placeI_mem hb
  unfold placeI at h0 ⊢
  rw [List.findIdx?_append, place_none hc]
  cases hf : b.findIdx? (· == c) with
  | none => rw [hf] at h0; simp at h0
  | some i => simp; omega
theorem val_left {a b : List S} {x y : List V} {c : S} (hl : x.length = a.length) (hc : c ∈ a) : valC (a ++ b) (x ++ y) c = valC a x c := by
  unfold valC
  rw [place_left hc]
  obtain ⟨i, hi, e, -⟩ := placeI_at (placeI_mem hc)
  rw [e, Int.toNat_natCast, List.getD_eq_getElem?_getD, List.getElem?_append_left (by omega), ← List.getD_eq_getElem?_getD]
theorem val_right {a b : List S} {x y : List V} {c : S} (hl : x.length = a.length) (hc : c ∉ a) (hb : c ∈ b) : valC (a ++ b) (x ++ y) c = valC b y c := by
  unfold valC
  rw [place_right hc hb]
  obtain ⟨i, hi, e, -⟩ := placeI_at (placeI_mem hb)
  rw [e, show ((a.length : Int) + (i : Int)).toNat = a.length + i by omega, Int.toNat_natCast, List.getD_eq_getElem?_getD, List.getElem?_append_right (by omega), hl, Nat.add_sub_cancel_left, ← List.getD_eq_getElem?_getD]
theorem common_mem {ac bc : List S} {c : S} : c ∈ commonC ac bc ↔ c ∈ bc ∧ c ∈ ac := by
  unfold commonC
  rw [List.mem_filter, decide_eq_true_eq, place_mem_iff]
theorem rest_mem {ac bc : List S} {c : S} : c ∈ restC ac bc ↔ c ∈ bc ∧ c ∉ ac := by
  unfold restC
  rw [List.mem_filter, Bool.not_eq_true', decide_eq_false_iff_not, place_mem_iff]
theorem agree_iff {ac bc : List S} {x y : List V} : agreeR ac bc x y = true ↔ ∀ c, c ∈ bc → c ∈ ac → valC bc y c = valC ac x c := by
  unfold agreeR
  rw [beq_iff_eq, cmpR_cmp.zero, pick_val, pick_val, List.map_inj_left]
  constructor
  · intro h c h1 h2; exact h c (common_mem.2 ⟨h1, h2⟩)
  · intro h c hc; exact h c (common_mem.1 hc).1 (common_mem.1 hc).2
theorem agree_symm {ac bc : List S} {x y : List V} (h : agreeR ac bc x y = true) : agreeR bc ac y x = true :=
  agree_iff.2 (fun c h1 h2 => (agree_iff.1 h c h2 h1).symm)
theorem agree_self {rc : List S} {x y : List V} (ho : onceB rc = true) (hx : x.length = rc.length) (hy : y.length = rc.length) : agreeR rc rc x y = true ↔ x = y := by
  rw [agree_iff]
  constructor
  · intro h
    rw [← val_self ho hx, ← val_self ho hy]
    exact List.map_congr_left (fun c hc => (h c hc hc).symm)
  · rintro rfl c _ _; rfl
theorem rest_self (rc : List S) : restC rc rc = [] := by
  rw [List.eq_nil_iff_forall_not_mem]
  intro c hc
  exact (rest_mem.1 hc).2 (rest_mem.1 hc).1
theorem joinCols_self (rc : List S) : joinCols rc rc = rc := by
  unfold joinCols
  rw [rest_self, List.append_nil]
theorem joinL_mem {ac bc : List S} {la lb : List (List V)} {z : List V} : z ∈ joinL ac la bc lb ↔ ∃ x ∈ la, ∃ y ∈ lb, agreeR ac bc x y = true ∧ z = x ++ (restC ac bc).map (valC bc y) := by
  unfold joinL
  rw [List.mem_flatMap]
  constructor
  · rintro ⟨x, hx, hz⟩
    obtain ⟨y, hy, rfl⟩ := List.mem_map.1 hz
    obtain ⟨h1, h2⟩ := List.mem_filter.1 hy
    exact ⟨x, hx, y, h1, h2, by rw [pick_val]⟩
  · rintro ⟨x, hx, y, hy, h, rfl⟩
    exact ⟨x, hx, List.mem_map.2 ⟨y, List.mem_filter.2 ⟨hy, h⟩, by rw [pick_val]⟩⟩
theorem joinL_many (ac : List S) (la : List (List V)) (bc : List S) (lb : List (List V)) : (joinL ac la bc lb).length ≤ la.length * lb.length := by
  unfold joinL
  induction la with
  | nil => simp
  | cons a r ih =>
    rw [List.flatMap_cons, List.length_append, List.length_map, List.length_cons, Nat.succ_mul]
    have : (lb.filter (agreeR ac bc a)).length ≤ lb.length := List.length_filter_le _ _
    omega
theorem canon_is {X l : List (List V)} (hl : Up cmpR l) (h : ∀ z, z ∈ X ↔ z ∈ l) : relCanon X = l := (canon_one cmpR_cmp h).trans (canon_self cmpR_cmp hl)
theorem canon_up' (X : List (List V)) : Up cmpR (relCanon X) := canon_up cmpR_cmp X
theorem canon_mem' {X : List (List V)} {z : List V} : z ∈ relCanon X ↔ z ∈ X := canon_mem cmpR_cmp X z
theorem may_of {cols : List S} {l : List (List V)} (ho : onceB cols = true) (hl : l.length ≤ 100000) (hx : ∀ x ∈ l, x.length = cols.length) (hu : Up cmpR l) : mayRel cols l = true := by
  refine mayRel_yes ho hl (fun i hi => ?_)
  unfold mayAt
  rw [getDS l _ i hi, Bool.and_eq_true, beq_iff_eq]
  refine ⟨hx _ (List.getElem_mem hi), ?_⟩
  by_cases h0 : i = 0
  · subst h0; rfl
  · rw [getDS l _ (i - 1) (by omega), Bool.or_eq_true, decide_eq_true_eq]
    exact .inr ((List.pairwise_iff_getElem.1 hu) (i - 1) i (by omega) hi (by omega))
theorem may_up' {cols : List S} {l : List (List V)} (h : mayRel cols l = true) : Up cmpR l := may_up h
theorem madeErr_ok {cols : List S} {xs : List (List V)} (h1 : cols.length ≤ 32) (h2 : (relCanon xs).length ≤ 100000) : madeErr cols xs = 0 := by
  unfold madeErr
  rw [if_neg (by omega)]
theorem madeErr_cols {cols : List S} {xs : List (List V)} (h2 : (relCanon xs).length ≤ 100000) : madeErr cols xs = if 32 < cols.length then 140 else 0 := by
  unfold madeErr
  by_cases h : 32 < cols.length
  · rw [if_pos (.inl h), if_pos h]
  · rw [if_neg (by omega), if_neg h]
theorem once_nodup {l : List S} (h : onceB l = true) : l.Nodup := by
  rw [List.nodup_iff_pairwise_ne, List.pairwise_iff_getElem]
  intro i j hi hj hij e
  have h1 := once_place h i hi
  have h2 := once_place h j hj
  rw [e, h2] at h1
  omega
theorem once_of {l : List S} (hn : l.Nodup) (hl : l.length ≤ 32) : onceB l = true := by
  refine onceB_yes (fun i hi => ?_)
  unfold onceAt
  rw [getDS l _ i hi, Bool.and_eq_true, decide_eq_true_eq, beq_iff_eq]
  refine ⟨by omega, placeI_hit hi rfl (fun j hj e => ?_)⟩
  rw [getDS l _ j (by omega)] at e
  rw [List.nodup_iff_pairwise_ne, List.pairwise_iff_getElem] at hn
  exact hn j i (by omega) hi hj e
theorem joinCols_nodup {ac bc : List S} (ha : ac.Nodup) (hb : bc.Nodup) : (joinCols ac bc).Nodup := by
  unfold joinCols
  rw [List.nodup_append]
  refine ⟨ha, hb.filter _, fun c hc d hd e => ?_⟩
  subst e
  exact (rest_mem.1 hd).2 hc
theorem joinCols_mem {ac bc : List S} {c : S} : c ∈ joinCols ac bc ↔ c ∈ ac ∨ c ∈ bc := by
  unfold joinCols
  rw [List.mem_append, rest_mem]
  constructor
  · rintro (h | h)
    · exact .inl h
    · exact .inr h.1
  · rintro (h | h)
    · exact .inl h
    · by_cases h2 : c ∈ ac
      · exact .inl h2
      · exact .inr ⟨h, h2⟩
theorem nodup_len_le : ∀ {l m : List S}, l.Nodup → (∀ c ∈ l, c ∈ m) → l.length ≤ m.length := by
  intro l
  induction l with
  | nil => intro m _ _; simp
  | cons a r ih =>
    intro m hn hm
    obtain ⟨h1, h2⟩ := List.nodup_cons.1 hn
    have ha : a ∈ m := hm a List.mem_cons_self
    have := ih (m := m.erase a) h2 (fun c hc => (List.mem_erase_of_ne (by rintro rfl; exact h1 hc)).2 (hm c (List.mem_cons_of_mem _ hc)))
    rw [List.length_erase_of_mem ha] at this
    have := List.length_pos_of_mem ha
    rw [List.length_cons]
    omega
theorem joinCols_len {ac bc : List S} (ha : ac.Nodup) (hb : bc.Nodup) : (joinCols ac bc).length = (joinCols bc ac).length :=
  Nat.le_antisymm (nodup_len_le (joinCols_nodup ha hb) (fun c hc => joinCols_mem.2 (joinCols_mem.1 hc).symm)) (nodup_len_le (joinCols_nodup hb ha) (fun c hc => joinCols_mem.2 (joinCols_mem.1 hc).symm))

/-! ### a relation beside itself -/
theorem within_self (rc : List S) : withinB rc rc = true := within_sub (fun c hc => hc)
section
variable {rc : List S} {l : List (List V)} (h : mayRel rc l = true)
include h
theorem join_self_rows : relCanon (joinL rc l rc l) = l := by
  refine canon_is (may_up' h) (fun z => ?_)
  rw [joinL_mem, rest_self]
  have ho := may_once h
  constructor
  · rintro ⟨x, hx, y, hy, hag, rfl⟩
    simpa using hx
  · intro hz
    exact ⟨z, hz, z, hz, (agree_self ho (may_len h z hz) (may_len h z hz)).2 rfl, by simp⟩
theorem join_self_err : joinErr rc l rc l = 0 := by
  have hm := may_many h
  unfold joinErr
  rw [h, Bool.true_and, if_pos rfl]
  exact madeErr_ok (by rw [joinCols_self]; exact hm.2) (by rw [join_self_rows h]; exact hm.1)
theorem pick_self {x : List V} (hx : x ∈ l) : pickL x (placesL rc rc) = x := by rw [pick_val, val_self (may_once h) (may_len h x hx)]
theorem or_self_rows : relCanon (l ++ l.map fun x => pickL x (placesL rc rc)) = l := by
  refine canon_is (may_up' h) (fun z => ?_)
  rw [List.mem_append, List.mem_map]
  constructor
  · rintro (hz | ⟨x, hx, rfl⟩)
    · exact hz
    · rw [pick_self h hx]; exact hx
  · exact .inl
theorem or_self_err : orErr rc l rc l = 0 := by
  have hm := may_many h
  unfold orErr
  rw [h, within_self, decide_eq_true rfl]
  simp only [Bool.and_self, if_true]
  exact madeErr_ok hm.2 (by rw [or_self_rows h]; exact hm.1)
theorem wo_self : withoutL rc l rc l = [] := by
  unfold withoutL
  rw [List.filter_eq_nil_iff]
  intro x hx
  rw [Bool.not_eq_true', Bool.not_eq_false, List.any_eq_true]
  exact ⟨x, hx, (agree_self (may_once h) (may_len h x hx) (may_len h x hx)).2 rfl⟩
theorem wo_self_err : woErr rc l rc l = 0 := by
  have hm := may_many h
  unfold woErr
  rw [h, Bool.true_and, if_pos rfl, wo_self h]
  exact madeErr_ok hm.2 (by simp [relCanon, canonL])
end
theorem canon_nil : relCanon [] = [] := rfl

theorem join_row_len {rc sc : List S} {l m : List (List V)} (hr : mayRel rc l = true) {z : List V} (hz : z ∈ joinL rc l sc m) : z.length = (joinCols rc sc).length := by
  obtain ⟨x, hx, y, hy, -, rfl⟩ := joinL_mem.1 hz
  unfold joinCols
  rw [List.length_append, List.length_append, List.length_map, may_len hr x hx]
/-! ### two relations in the other order -/
section
variable {rc sc : List S} {l m : List (List V)} (hr : mayRel rc l = true) (hs : mayRel sc m = true)
include hr hs
theorem joinErr_cols (hlm : l.length * m.length < 100000) : joinErr rc l sc m = if 32 < (joinCols rc sc).length then 140 else 0 := by
  unfold joinErr
  rw [hr, hs, Bool.true_and, if_pos rfl]
  refine madeErr_cols ?_
  have := canon_len_le (joinL rc l sc m)
  have := joinL_many rc l sc m
  omega
theorem joinErr_turn (hlm : l.length * m.length < 100000) : joinErr rc l sc m = joinErr sc m rc l := by
  rw [joinErr_cols hr hs hlm, joinErr_cols hs hr (by rw [Nat.mul_comm]; exact hlm), joinCols_len (once_nodup (may_once hr)) (once_nodup (may_once hs))]
theorem joinCols_once (hc : (joinCols rc sc).length ≤ 32) : onceB (joinCols rc sc) = true := once_of (joinCols_nodup (once_nodup (may_once hr)) (once_nodup (may_once hs))) hc
theorem joinErr_zero (he : joinErr rc l sc m = 0) : (joinCols rc sc).length ≤ 32 ∧ (relCanon (joinL rc l sc m)).length ≤ 100000 := by
  unfold joinErr at he
  rw [hr, hs, Bool.true_and, if_pos rfl] at he
  unfold madeErr at he
  split at he
  · cases he
  · omega
theorem join_may (he : joinErr rc l sc m = 0) : mayRel (joinCols rc sc) (relCanon (joinL rc l sc m)) = true :=
  may_of (joinCols_once hr hs (joinErr_zero hr hs he).1) (joinErr_zero hr hs he).2 (fun x hx => join_row_len hr (canon_mem'.1 hx)) (canon_up' _)
theorem join_turn {x y : List V} (hx : x ∈ l) (hy : y ∈ m) (hag : agreeR rc sc x y = true) :
    (joinCols rc sc).map (valC (joinCols sc rc) (y ++ (restC sc rc).map (valC rc x))) = x ++ (restC rc sc).map (valC sc y) := by
  have hxl := may_len hr x hx
  have hyl := may_len hs y hy
  rw [show joinCols rc sc = rc ++ restC rc sc from rfl, List.map_append]
  congr 1
  · refine Eq.trans ?_ (val_self (may_once hr) hxl)
    refine List.map_congr_left (fun c hc => ?_)
    by_cases h2 : c ∈ sc
    · rw [show joinCols sc rc = sc ++ restC sc rc from rfl, val_left hyl h2]
      exact agree_iff.1 hag c h2 hc
    · rw [show joinCols sc rc = sc ++ restC sc rc from rfl, val_right hyl h2 (rest_mem.2 ⟨hc, h2⟩)]
      exact val_map _ (rest_mem.2 ⟨hc, h2⟩)
  · refine List.map_congr_left (fun c hc => ?_)
    rw [show joinCols sc rc = sc ++ restC sc rc from rfl, val_left hyl (rest_mem.1 hc).1]
theorem turn_rows : relCanon ((relCanon (joinL sc m rc l)).map fun z => pickL z (placesL (joinCols rc sc) (joinCols sc rc))) = relCanon (joinL rc l sc m) := by
  refine canon_one cmpR_cmp (fun z => ?_)
  rw [List.mem_map, joinL_mem]
  constructor
  · rintro ⟨q, hq, rfl⟩
    obtain ⟨y, hy, x, hx, hag, rfl⟩ := joinL_mem.1 (canon_mem'.1 hq)
    exact ⟨x, hx, y, hy, agree_symm hag, by rw [pick_val]; exact join_turn hr hs hx hy (agree_symm hag)⟩
  · rintro ⟨x, hx, y, hy, hag, rfl⟩
    refine ⟨_, canon_mem'.2 (joinL_mem.2 ⟨y, hy, x, hx, agree_symm hag, rfl⟩), ?_⟩
    rw [pick_val]
    exact join_turn hr hs hx hy hag
theorem turn_err (he : joinErr rc l sc m = 0) (he2 : joinErr sc m rc l = 0) : projErr (joinCols sc rc) (relCanon (joinL sc m rc l)) (joinCols rc sc) = 0 := by
  unfold projErr
  rw [join_may hs hr he2, joinCols_once hr hs (joinErr_zero hr hs he).1, within_sub (fun c hc => joinCols_mem.2 (joinCols_mem.1 hc).symm)]
  simp only [Bool.and_self, if_true]
  exact madeErr_ok (joinErr_zero hr hs he).1 (by rw [turn_rows hr hs]; exact (joinErr_zero hr hs he).2)
end

theorem parts_len {l : List (List V)} (p : List V → Bool) : (l.filter p).length + (l.filter fun x => !p x).length = l.length := by
  induction l with
  | nil => rfl
  | cons a r ih =>
    rw [List.filter_cons, List.filter_cons]
    cases p a <;> simp <;> omega
/-! ### a relation parted by another one -/
def metB (rc sc : List S) (m : List (List V)) (x : List V) : Bool := m.any fun y => agreeR rc sc x y
section
variable {rc sc : List S} {l m : List (List V)} (hr : mayRel rc l = true) (hs : mayRel sc m = true)
include hr
theorem filter_may (p : List V → Bool) : mayRel rc (l.filter p) = true :=
  may_of (may_once hr) (Nat.le_trans (List.length_filter_le _ _) (may_many hr).1) (fun x hx => may_len hr x (List.mem_filter.1 hx).1) (List.Pairwise.filter _ (may_up' hr))
theorem without_rows : relCanon (withoutL rc l sc m) = l.filter fun x => !metB rc sc m x := canon_self cmpR_cmp (List.Pairwise.filter _ (may_up' hr))
theorem or_parts (p : List V → Bool) : relCanon (l.filter p ++ (l.filter fun x => !p x).map fun x => pickL x (placesL rc rc)) = l := by
  refine canon_is (may_up' hr) (fun z => ?_)
  rw [List.mem_append, List.mem_map]
  constructor
  · rintro (hz | ⟨x, hx, rfl⟩)
    · exact (List.mem_filter.1 hz).1
    · rw [pick_self hr (List.mem_filter.1 hx).1]; exact (List.mem_filter.1 hx).1
  · intro hz
    cases hp : p z with
    | true => exact .inl (List.mem_filter.2 ⟨hz, hp⟩)
    | false => exact .inr ⟨z, List.mem_filter.2 ⟨hz, by rw [hp]; rfl⟩, pick_self hr hz⟩
theorem or_parts_err (p : List V → Bool) : orErr rc (l.filter p) rc (l.filter fun x => !p x) = 0 := by
  have hm := may_many hr
  unfold orErr
  rw [filter_may hr, filter_may hr, within_sub (fun c hc => hc), decide_eq_true rfl]
  simp only [Bool.and_self, if_true]
  exact madeErr_ok hm.2 (by rw [or_parts hr p]; exact hm.1)
theorem join_parts (p : List V → Bool) : joinL rc (l.filter p) rc (l.filter fun x => !p x) = [] := by
  rw [List.eq_nil_iff_forall_not_mem]
  intro z hz
  obtain ⟨x, hx, y, hy, hag, -⟩ := joinL_mem.1 hz
  obtain ⟨hx1, hx2⟩ := List.mem_filter.1 hx
  obtain ⟨hy1, hy2⟩ := List.mem_filter.1 hy
  have := (agree_self (may_once hr) (may_len hr x hx1) (may_len hr y hy1)).1 hag
  subst this
  rw [hx2] at hy2
  cases hy2
theorem join_parts_err (p : List V → Bool) : joinErr rc (l.filter p) rc (l.filter fun x => !p x) = 0 := by
  unfold joinErr
  rw [filter_may hr, filter_may hr, Bool.true_and, if_pos rfl, join_parts hr]
  exact madeErr_ok (by rw [joinCols_self]; exact (may_many hr).2) (by simp [relCanon, canonL])
theorem with_rows : relCanon ((relCanon (joinL rc l sc m)).map fun z => pickL z (placesL rc (joinCols rc sc))) = l.filter (metB rc sc m) := by
  refine canon_is (List.Pairwise.filter _ (may_up' hr)) (fun z => ?_)
  have key : ∀ x y, x ∈ l → pickL (x ++ (restC rc sc).map (valC sc y)) (placesL rc (joinCols rc sc)) = x := by
    intro x y hx
    rw [pick_val]
    refine Eq.trans ?_ (val_self (may_once hr) (may_len hr x hx))
    exact List.map_congr_left (fun c hc => val_left (may_len hr x hx) hc)
  rw [List.mem_map, List.mem_filter]
  unfold metB
  rw [List.any_eq_true]
  constructor
  · rintro ⟨q, hq, rfl⟩
    obtain ⟨x, hx, y, hy, hag, rfl⟩ := joinL_mem.1 (canon_mem'.1 hq)
    rw [key x y hx]
    exact ⟨hx, y, hy, hag⟩
  · rintro ⟨hx, y, hy, hag⟩
    exact ⟨_, canon_mem'.2 (joinL_mem.2 ⟨z, hx, y, hy, hag, rfl⟩), key z y hx⟩
include hs
theorem wo_err : woErr rc l sc m = 0 := by
  unfold woErr
  rw [hr, hs, Bool.true_and, if_pos rfl]
  refine madeErr_ok (may_many hr).2 ?_
  rw [without_rows hr]
  exact Nat.le_trans (List.length_filter_le _ _) (may_many hr).1
theorem with_err (he : joinErr rc l sc m = 0) : projErr (joinCols rc sc) (relCanon (joinL rc l sc m)) rc = 0 := by
  unfold projErr
  rw [join_may hr hs he, may_once hr, within_sub (fun c hc => joinCols_mem.2 (.inl hc))]
  simp only [Bool.and_self, if_true]
  refine madeErr_ok (may_many hr).2 ?_
  rw [with_rows hr]
  exact Nat.le_trans (List.length_filter_le _ _) (may_many hr).1
end
theorem join_mays {rc sc : List S} {l m : List (List V)} (he : joinErr rc l sc m = 0) : mayRel rc l = true ∧ mayRel sc m = true := by
  unfold joinErr at he
  split at he
  · rename_i h
    rw [Bool.and_eq_true] at h
    exact h
  · cases he

/-! ### rows from back to front, each twice -/
def backL (l : List (List V)) : List (List V) := l.reverse.flatMap fun x => [x, x]
theorem backL_mem {l : List (List V)} {x : List V} : x ∈ backL l ↔ x ∈ l := by
  unfold backL
  rw [List.mem_flatMap]
  constructor
  · rintro ⟨y, hy, hx⟩
    simp only [List.mem_cons, List.not_mem_nil, or_false, or_self] at hx
    subst hx
    exact List.mem_reverse.1 hy
  · intro h
    exact ⟨x, List.mem_reverse.2 h, by simp⟩
theorem back_rows (l : List (List V)) : relCanon (backL l) = relCanon l := canon_one cmpR_cmp (fun x => backL_mem)
theorem back_fit (cols : List S) (l : List (List V)) : fitB cols (backL l) = fitB cols l := by
  unfold fitB
  congr 2
  rw [Bool.eq_iff_iff, List.any_eq_true, List.any_eq_true]
  constructor
  · rintro ⟨x, hx, h⟩; exact ⟨x, backL_mem.1 hx, h⟩
  · rintro ⟨x, hx, h⟩; exact ⟨x, backL_mem.2 hx, h⟩
theorem back_err (cols : List S) (l : List (List V)) : ofErr cols (backL l) = ofErr cols l := by
  unfold ofErr
  rw [back_fit, back_rows]
theorem of_may {cols : List S} {l : List (List V)} (h : ofErr cols l = 0) : mayRel cols (relCanon l) = true := by
  unfold ofErr at h
  split at h
  · rename_i hf
    unfold fitB at hf
    rw [Bool.and_eq_true, Bool.not_eq_true', List.any_eq_false] at hf
    refine may_of hf.1 ?_ (fun x hx => ?_) (canon_up' _)
    · split at h
      · cases h
      · omega
    · have := hf.2 x (canon_mem'.1 hx)
      simpa using this
  · cases h
theorem of_has {cols : List S} {l : List (List V)} (h : ofErr cols l = 0) {x : List V} (hx : x ∈ l) : hasB cols (relCanon l) x = true := by
  unfold hasB
  rw [of_may h, Bool.true_and, List.any_eq_true]
  exact ⟨x, canon_mem'.2 hx, by rw [beq_iff_eq]; exact cmpR_cmp.self x⟩
theorem okL_up (e : Int) (l : List (List V)) : Up cmpR (okL e (relCanon l)) := by
  unfold okL
  split
  · exact canon_up' l
  · exact List.Pairwise.nil
theorem up_step {l : List (List V)} (h : Up cmpR l) {i : Nat} (h0 : 0 < i) (hi : i < l.length) : cmpR l[i - 1] l[i] = -1 := by
  have h1 := (List.pairwise_iff_getElem.1 h) (i - 1) i (by omega) hi (by omega)
  have := cmpR_cmp.three l[i - 1] l[i]
  omega
theorem okL_len_le (e : Int) (l : List (List V)) : (okL e (relCanon l)).length ≤ l.length := by
  unfold okL
  split
  · exact canon_len_le l
  · simp
end Go.Proofs.Ytpncblagjkbemaa
end

/- Relations in variables: what stays of them, and what the functions make of them. -/
section
set_option linter.unusedVariables false
set_option linter.unusedSimpArgs false
namespace Go.Proofs.Ytpncblagjkbemaa
open Go.RowKit
set_option linter.unusedVariables false
set_option linter.unusedSimpArgs false

/-- A relation's value. -/
structure RelH (w : World) (pc : Option Addr) (qc : Nat) (pl : Option Addr) (ql : Nat) (cols : List S) (l : List (List V)) : Prop where
  strs : Strs 0 w.heap.size w (.slice pc cols.length qc) cols
  rws : Rws 0 w.heap.size w (.slice pl l.length ql) l
theorem RelH.below {w w' : World} {pc pl : Option Addr} {qc ql : Nat} {cols : List S} {l : List (List V)} (h : RelH w pc qc pl ql cols l) (hB : Below w.heap.size w w') : RelH w' pc qc pl ql cols l :=
  ⟨(Sl.below h.strs Strs.loc hB (Nat.le_refl _)).mono Strs.loc (Nat.zero_le _) hB.size, (Sl.below h.rws rowE_loc hB (Nat.le_refl _)).mono rowE_loc (Nat.zero_le _) hB.size⟩
/-- A variable that holds a relation. -/
structure RelAt (w : World) (b : Nat) (pc : Option Addr) (qc : Nat) (pl : Option Addr) (ql : Nat) (cols : List S) (l : List (List V)) : Prop where
  blk : Blk w b [.slice pc cols.length qc, .slice pl l.length ql] 34
  rel : RelH w pc qc pl ql cols l
theorem RelAt.below {w w' : World} {b : Nat} {pc pl : Option Addr} {qc ql : Nat} {cols : List S} {l : List (List V)} (h : RelAt w b pc qc pl ql cols l) (hB : Below w.heap.size w w') : RelAt w' b pc qc pl ql cols l :=
  ⟨h.blk.below hB h.blk.lt, h.rel.below hB⟩
theorem RelH.box {w : World} {pc pl : Option Addr} {qc ql : Nat} {cols : List S} {l : List (List V)} (h : RelH w pc qc pl ql cols l) {n : Nat} (hn : n = w.heap.size) :
    RelAt (w.alloc (.cells #[.slice pc cols.length qc, .slice pl l.length ql] 34)) n pc qc pl ql cols l :=
  ⟨Blk.new w [.slice pc cols.length qc, .slice pl l.length ql] _ hn, h.below (alloc_below _ _)⟩
/-- What a function hands back. -/
def RelV (w : World) (v : Value) (cols : List S) (l : List (List V)) : Prop := ∃ pc qc pl ql, v = .agg #[.slice pc cols.length qc, .slice pl l.length ql] ∧ RelH w pc qc pl ql cols l
theorem RelV.of {lo : Nat} {w : World} {cv lv : Value} {hs : List Value} {cols : List S} {l : List (List V)} (hT : OwnT lo w cv cols) (hR : OwnR lo w lv hs l) : RelV w (.agg #[cv, lv]) cols l := by
  obtain ⟨p, q, rfl, -, -, -, -⟩ := (OwnT.sl hT).form
  obtain ⟨p2, q2, rfl, -, -, -, -⟩ := hR.rws.form
  exact ⟨p, q, p2, q2, rfl, (OwnT.sl hT).mono Strs.loc (Nat.zero_le _) (Nat.le_refl _), hR.rws.mono rowE_loc (Nat.zero_le _) (Nat.le_refl _)⟩
theorem RelV.okNil {w : World} {v : Value} {e : Int} {cols : List S} {l : List (List V)} (h : RelV w v (okL e cols) (okL e l)) : RelV w v (okL e cols) (okL e l) := h

section
variable {w : World} {pa qb pb qa : Option Addr} {na nb ma mb : Nat} {ac bc : List S} {la lb : List (List V)}
theorem Join_K (ha : RelH w pa na qa ma ac la) (hb : RelH w pb nb qb mb bc lb) (hprod : la.length * lb.length < 100000) {e : Int} {co : List S} {lo : List (List V)} (he : joinErr ac la bc lb = e) (hc : okL e (joinCols ac bc) = co) (hl : okL e (relCanon (joinL ac la bc lb)) = lo) (R : Ending → World → Prop)
    (hR : ∀ w' v, Below w.heap.size w w' → RelV w' v co lo → R (.returned (.tuple #[v, .int .i64 e])) w') :
    Calls Try.prog 41 #[.agg #[.slice pa ac.length na, .slice qa la.length ma], .agg #[.slice pb bc.length nb, .slice qb lb.length mb]] w R := by
  subst he hc hl
  exact Join_any 0 w.heap.size 0 w.heap.size 0 w.heap.size 0 w.heap.size ac bc _ _ _ _ la lb _ _ w ha.strs (Nat.le_refl _) ha.rws (Nat.le_refl _) hb.strs (Nat.le_refl _) hb.rws (Nat.le_refl _) hprod R (fun w' cv lv hs hB hT hO => hR w' _ hB (.of hT hO))
theorem Or_K (ha : RelH w pa na qa ma ac la) (hb : RelH w pb nb qb mb bc lb) (hlen : ac.length ≤ 100000000) {e : Int} {co : List S} {lo : List (List V)} (he : orErr ac la bc lb = e) (hc : okL e ac = co) (hl : okL e (relCanon (la ++ lb.map fun x => pickL x (placesL ac bc))) = lo) (R : Ending → World → Prop)
    (hR : ∀ w' v, Below w.heap.size w w' → RelV w' v co lo → R (.returned (.tuple #[v, .int .i64 e])) w') :
    Calls Try.prog 43 #[.agg #[.slice pa ac.length na, .slice qa la.length ma], .agg #[.slice pb bc.length nb, .slice qb lb.length mb]] w R := by
  subst he hc hl
  exact Or_any 0 w.heap.size 0 w.heap.size 0 w.heap.size 0 w.heap.size ac bc _ _ _ _ la lb _ _ w ha.strs (Nat.le_refl _) ha.rws (Nat.le_refl _) hb.strs (Nat.le_refl _) hb.rws (Nat.le_refl _) hlen R (fun w' cv lv hs hB hT hO => hR w' _ hB (.of hT hO))
theorem Without_K (ha : RelH w pa na qa ma ac la) (hb : RelH w pb nb qb mb bc lb) {e : Int} {co : List S} {lo : List (List V)} (he : woErr ac la bc lb = e) (hc : okL e ac = co) (hl : okL e (relCanon (withoutL ac la bc lb)) = lo) (R : Ending → World → Prop)
    (hR : ∀ w' v, Below w.heap.size w w' → RelV w' v co lo → R (.returned (.tuple #[v, .int .i64 e])) w') :
    Calls Try.prog 45 #[.agg #[.slice pa ac.length na, .slice qa la.length ma], .agg #[.slice pb bc.length nb, .slice qb lb.length mb]] w R := by
  subst he hc hl
  exact Without_any 0 w.heap.size 0 w.heap.size 0 w.heap.size 0 w.heap.size ac bc _ _ _ _ la lb _ _ w ha.strs (Nat.le_refl _) ha.rws (Nat.le_refl _) hb.strs (Nat.le_refl _) hb.rws (Nat.le_refl _) R (fun w' cv lv hs hB hT hO => hR w' _ hB (.of hT hO))
theorem Project_K {cols : List S} {cv : Value} (ha : RelH w pa na qa ma ac la) (hcols : Strs 0 w.heap.size w cv cols) (hlen : cols.length ≤ 1000000000000) (hll : la.length ≤ 1000000000000) {e : Int} {co : List S} {lo : List (List V)} (he : projErr ac la cols = e) (hc : okL e cols = co) (hl : okL e (relCanon (la.map fun x => pickL x (placesL cols ac))) = lo) (R : Ending → World → Prop)
    (hR : ∀ w' v, Below w.heap.size w w' → RelV w' v co lo → R (.returned (.tuple #[v, .int .i64 e])) w') :
    Calls Try.prog 30 #[.agg #[.slice pa ac.length na, .slice qa la.length ma], cv] w R := by
  subst he hc hl
  exact Project_any 0 w.heap.size 0 w.heap.size 0 w.heap.size ac _ _ la _ cols cv w ha.strs (Nat.le_refl _) ha.rws (Nat.le_refl _) hcols (Nat.le_refl _) hlen hll R (fun w' cv lv hs hB hT hO => hR w' _ hB (.of hT hO))
theorem Of_K {cols : List S} {cv lv : Value} {l : List (List V)} (hcols : Strs 0 w.heap.size w cv cols) (hv : Rws 0 w.heap.size w lv l) (hlen : l.length ≤ 1000000000000) (hrl : ∀ x ∈ l, x.length ≤ 4000000000000) {e : Int} {co : List S} {lo : List (List V)} (he : ofErr cols l = e) (hc : okL e cols = co) (hl : okL e (relCanon l) = lo) (R : Ending → World → Prop)
    (hR : ∀ w' v, Below w.heap.size w w' → RelV w' v co lo → R (.returned (.tuple #[v, .int .i64 e])) w') :
    Calls Try.prog 26 #[cv, lv] w R := by
  subst he hc hl
  exact OfK_any 0 w.heap.size 0 w.heap.size cols l cv lv w hcols hv (Nat.le_refl _) (Nat.le_refl _) hlen hrl R (fun w' cv lv hs hB hT hO => hR w' _ hB (.of hT hO))
theorem Same_K (ha : RelH w pa na qa ma ac la) (hb : RelH w pb nb qb mb bc lb) (hc : ac = bc) (hl : la = lb) (hrs : ∀ x ∈ la, ∀ a ∈ x, a.s.length ≤ 9223372036854775807) (R : Ending → World → Prop)
    (hR : ∀ w', Below w.heap.size w w' → R (.returned (.bool true)) w') :
    Calls Try.prog 29 #[.agg #[.slice pa ac.length na, .slice qa la.length ma], .agg #[.slice pb bc.length nb, .slice qb lb.length mb]] w R := by
  subst hc hl
  exact lawSame_any 0 w.heap.size 0 w.heap.size 0 w.heap.size 0 w.heap.size ac la _ _ _ _ w ha.strs hb.strs ha.rws hb.rws (Nat.le_refl _) (Nat.le_refl _) (Nat.le_refl _) (Nat.le_refl _) hrs R hR
theorem May_K (ha : RelH w pa na qa ma ac la) {q : Bool} (hq : mayRel ac la = q) (R : Ending → World → Prop) (hR : ∀ w', Below w.heap.size w w' → R (.returned (.bool q)) w') :
    Calls Try.prog 38 #[.agg #[.slice pa ac.length na, .slice qa la.length ma]] w R := by
  subst hq
  exact May_any 0 w.heap.size 0 w.heap.size ac _ _ la _ w ha.strs (Nat.le_refl _) ha.rws (Nat.le_refl _) R hR
end
end Go.Proofs.Ytpncblagjkbemaa
end

/- The chapter's relations: a row of numbers. (Printed by outa.py.) -/
section
set_option linter.unusedVariables false
set_option linter.unusedSimpArgs false
namespace Go.Proofs.Ytpncblagjkbemaa
open Go.RowKit
set_option linter.unusedVariables false
set_option linter.unusedSimpArgs false
attribute [local go_sem ↓] Go.wp_at_zero Go.wp_at_succ

def rowV (n : Int) : V := if n = 101 then ⟨3, 0, [113]⟩ else if n = 100 then ⟨3, 0, [112]⟩ else ⟨1, n, []⟩
set_option maxRecDepth 100000 in
set_option maxHeartbeats 2000000 in
theorem row_any (lo hi : Nat) (l : List Int) (v : Value) (w : World) (hv : Ints lo hi w v l) (hhi : hi ≤ w.heap.size) (hn : ∀ n ∈ l, -1000 ≤ n ∧ n ≤ 101) (hlen : l.length ≤ 1000) (R : Ending → World → Prop)
    (hR : ∀ w' v', Below w.heap.size w w' → OwnV w.heap.size w' v' (l.map rowV) → R (.returned v') w') : Calls Try.prog 51 #[v] w R := by
  have HR := Lib.hid hR
  have Hv := Lib.hid hv
  have Hn := Lib.hid hn
  obtain ⟨aa, ca, rfl, -, -, -, -⟩ := hv.form
  clear hR hv hn
  go_enter Try.func51, Try.ntmps51
  go_wp2_with fail
  go_loopw [3, 9] (fun t3 t9 wr => ∃ (k : Nat), k ≤ l.length ∧ t9 = .int .i64 k ∧ OwnV w.heap.size wr t3 ((l.take k).map rowV) ∧ Below w.heap.size w wr) (fun _ t9 _ => l.length - (intOf t9).toNat)
  case atStart => exact ⟨0, Nat.zero_le _, rfl, Own.nil _ _ _ _ _, Below.refl _ _⟩
  case round =>
    obtain ⟨k, hk, rfl, hown, hB⟩ := hrel
    obtain ⟨wo, ewo⟩ : ∃ x, x = wr := ⟨_, rfl⟩
    subst ewo
    have Hown := Lib.hid hown
    have HB := Lib.hid hB
    have hz := hB.size
    have kk0 : (0 : Int) ≤ (k : Int) := by omega
    obtain ⟨po, cap, hpo⟩ := Own.slice hown
    clear hown hB
    have Hkl : Hid (((l.take k).map rowV).length = k) := Lib.hid <| by rw [List.length_map, List.length_take]; omega
    rw [Hkl.out] at hpo
    by_cases hlt : k < l.length
    · have kkl : (k : Int) < (l.length : Int) := by omega
      obtain ⟨b, o, rfl, hb, hat⟩ := Ints.at (Sl.below Hv.out Ints.loc HB.out hhi) (by omega) (by omega)
      have g0 := hat k hlt wo (Below.refl _ _)
      have Hst : Hid ((l.take (k + 1)).map rowV = (l.take k).map rowV ++ [rowV l[k]]) := Lib.hid (by
        rw [List.take_succ_eq_append_getElem hlt, List.map_append]; rfl)
      obtain ⟨hn1, hn2⟩ := Hn.out _ (List.getElem_mem hlt)
      clear hat
      generalize l[k] = n at *
      by_cases h1 : n = 101
      · subst h1
        clear hn1 hn2
        subst hpo
        go_upto_region 7 with fail
        have hal := alloc_below wo (.cells #[.int .i64 1, .int .i64 101, .string ⟨#[]⟩] 24)
        have hba := Blk.new wo [.int .i64 1, .int .i64 101, .string ⟨#[]⟩] 24 rfl
        have hOw := Own.kept Hown.out hal
        generalize wo.alloc (.cells #[.int .i64 1, .int .i64 101, .string ⟨#[]⟩] 24) = wa at *
        obtain ⟨b6, eb6⟩ : ∃ b, b = wo.heap.size := ⟨_, rfl⟩
        rw [← eb6] at hba ⊢
        have hwb6 : w.heap.size ≤ b6 := by omega
        have hne : (Value.slice po k cap).ownBlock ≠ some b6 := fun e => by have := (Own.lt Hown.out _ e).2; omega
        clear eb6
        have hcv : (convert 119 9 (.slice (some ⟨wa.heap.size, 0, none⟩) 1 1)).run Try.prog (wa.alloc (.cells #[.int .u8 113] 5)) = .ok (.string ⟨#[113]⟩) (wa.alloc (.cells #[.int .u8 113] 5)) :=
          run_convert_bytes_back _ _ _ _ ⟨wa.heap.size, 0, none⟩ 1 [113] Try.underlying119 Try.underlying5 Try.underlying9 (fun j hj => by
            rw [Addr.add_lit]
            have hj0 : j = 0 := by simpa using hj
            subst hj0
            exact CellsAt.newAt wa [.int .u8 113] 5 rfl 0 _ rfl)
        have hal2 := alloc_below wa (.cells #[.int .u8 113] 5)
        have hba2 := hba.below hal2 hba.lt
        have hOw2 := Own.kept hOw hal2
        have hz2 := hal.size
        have hz3 := hal2.size
        have hbl := hba2.lt
        obtain ⟨e0, e1, e2⟩ := hba2.cells.c3
        simp only [Nat.zero_add] at e1 e2
        have f0 := hba2.free 0
        have f1 := hba2.free 1
        have f2 := hba2.free 2
        go_upto_region 8 with fail
        clear hcv e0 e1 e2 f0 f1 f2
        generalize wa.alloc (.cells #[.int .u8 113] 5) = wb at *
        have hq6 := ((hba2.set 0 (.int .i64 3)).set 1 (.int .i64 0)).set 2 (.string ⟨#[113]⟩)
        have hBq := (((HB.out.trans (hal.mono hz)).trans (hal2.mono (by omega))).setCell (p := ⟨b6, 0, none⟩) hwb6 (.int .i64 3)).setCell (p := ⟨b6, 1, none⟩) hwb6 (.int .i64 0) |>.setCell (p := ⟨b6, 2, none⟩) hwb6 (.string ⟨#[113]⟩)
        have hOq := Own.setOther (Own.setOther (Own.setOther hOw2 (p := ⟨b6, 0, none⟩) hne (.int .i64 3)) (p := ⟨b6, 1, none⟩) hne (.int .i64 0)) (p := ⟨b6, 2, none⟩) hne (.string ⟨#[113]⟩)
        generalize ((wb.setCell ⟨b6, 0, none⟩ (.int .i64 3)).setCell ⟨b6, 1, none⟩ (.int .i64 0)).setCell ⟨b6, 2, none⟩ (.string ⟨#[113]⟩) = we at *
        have hzq := hBq.size
        obtain ⟨v3, w3, hr3, ho3, ha3⟩ := appV1 hOq ⟨3, 0, [113]⟩ rfl (by rw [Hkl.out]; omega) (by omega)
        have HO3 := Lib.hid ho3
        have HB3 := Lib.hid (hBq.trans (ha3.below (B := w.heap.size) (by omega) (fun q e => (Own.lt hOq q e).1)))
        obtain ⟨e0, e1, e2⟩ := hq6.cells.c3
        simp only [Nat.zero_add] at e1 e2
        simp only at hr3
        clear ho3 ha3 hBq hOq hq6 hzq hba hba2 hal hal2 hOw hOw2 hne
        go_wp2_with (at_builtin; refine AtApp.of ?_)
        refine AtApp.go hr3 rfl rfl rfl rfl ?_
        clear e0 e1 e2
        go_wp2_with fail
        go_roundw
        case rel => exact ⟨k + 1, by omega, by go_num, by rw [Hst.out]; exact HO3.out, HB3.out⟩
        case measure => simp [intOf]; omega
      · by_cases h2 : n = 100
        · subst h2
          clear hn1 hn2 h1
          subst hpo
          go_upto_region 7 with fail
          have hal := alloc_below wo (.cells #[.int .i64 1, .int .i64 100, .string ⟨#[]⟩] 24)
          have hba := Blk.new wo [.int .i64 1, .int .i64 100, .string ⟨#[]⟩] 24 rfl
          have hOw := Own.kept Hown.out hal
          generalize wo.alloc (.cells #[.int .i64 1, .int .i64 100, .string ⟨#[]⟩] 24) = wa at *
          obtain ⟨b6, eb6⟩ : ∃ b, b = wo.heap.size := ⟨_, rfl⟩
          rw [← eb6] at hba ⊢
          have hwb6 : w.heap.size ≤ b6 := by omega
          have hne : (Value.slice po k cap).ownBlock ≠ some b6 := fun e => by have := (Own.lt Hown.out _ e).2; omega
          clear eb6
          have hcv : (convert 119 9 (.slice (some ⟨wa.heap.size, 0, none⟩) 1 1)).run Try.prog (wa.alloc (.cells #[.int .u8 112] 5)) = .ok (.string ⟨#[112]⟩) (wa.alloc (.cells #[.int .u8 112] 5)) :=
            run_convert_bytes_back _ _ _ _ ⟨wa.heap.size, 0, none⟩ 1 [112] Try.underlying119 Try.underlying5 Try.underlying9 (fun j hj => by
              rw [Addr.add_lit]
              have hj0 : j = 0 := by simpa using hj
              subst hj0
              exact CellsAt.newAt wa [.int .u8 112] 5 rfl 0 _ rfl)
          have hal2 := alloc_below wa (.cells #[.int .u8 112] 5)
          have hba2 := hba.below hal2 hba.lt
          have hOw2 := Own.kept hOw hal2
          have hz2 := hal.size
          have hz3 := hal2.size
          have hbl := hba2.lt
          obtain ⟨e0, e1, e2⟩ := hba2.cells.c3
          simp only [Nat.zero_add] at e1 e2
          have f0 := hba2.free 0
          have f1 := hba2.free 1
          have f2 := hba2.free 2
          go_upto_region 8 with fail
          clear hcv e0 e1 e2 f0 f1 f2
          generalize wa.alloc (.cells #[.int .u8 112] 5) = wb at *
          have hq6 := ((hba2.set 0 (.int .i64 3)).set 1 (.int .i64 0)).set 2 (.string ⟨#[112]⟩)
          have hBq := (((HB.out.trans (hal.mono hz)).trans (hal2.mono (by omega))).setCell (p := ⟨b6, 0, none⟩) hwb6 (.int .i64 3)).setCell (p := ⟨b6, 1, none⟩) hwb6 (.int .i64 0) |>.setCell (p := ⟨b6, 2, none⟩) hwb6 (.string ⟨#[112]⟩)
          have hOq := Own.setOther (Own.setOther (Own.setOther hOw2 (p := ⟨b6, 0, none⟩) hne (.int .i64 3)) (p := ⟨b6, 1, none⟩) hne (.int .i64 0)) (p := ⟨b6, 2, none⟩) hne (.string ⟨#[112]⟩)
          generalize ((wb.setCell ⟨b6, 0, none⟩ (.int .i64 3)).setCell ⟨b6, 1, none⟩ (.int .i64 0)).setCell ⟨b6, 2, none⟩ (.string ⟨#[112]⟩) = we at *
          have hzq := hBq.size
          obtain ⟨v3, w3, hr3, ho3, ha3⟩ := appV1 hOq ⟨3, 0, [112]⟩ rfl (by rw [Hkl.out]; omega) (by omega)
          have HO3 := Lib.hid ho3
          have HB3 := Lib.hid (hBq.trans (ha3.below (B := w.heap.size) (by omega) (fun q e => (Own.lt hOq q e).1)))
          obtain ⟨e0, e1, e2⟩ := hq6.cells.c3
          simp only [Nat.zero_add] at e1 e2
          simp only at hr3
          clear ho3 ha3 hBq hOq hq6 hzq hba hba2 hal hal2 hOw hOw2 hne
          go_wp2_with (at_builtin; refine AtApp.of ?_)
          refine AtApp.go hr3 rfl rfl rfl rfl ?_
          clear e0 e1 e2
          go_wp2_with fail
          go_roundw
          case rel => exact ⟨k + 1, by omega, by go_num, by rw [Hst.out]; exact HO3.out, HB3.out⟩
          case measure => simp [intOf]; omega
        · have Hst2 : Hid (rowV n = ⟨1, n, []⟩) := Lib.hid (by unfold rowV; rw [if_neg h1, if_neg h2])
          have nn : ¬ (100 : Int) ≤ n := by omega
          have hn3 : n ≤ 99 := by omega
          clear h1 h2
          subst hpo
          go_upto_region 8 with fail
          have hal := alloc_below wo (.cells #[.int .i64 1, .int .i64 n, .string ⟨#[]⟩] 24)
          have hq6 := Blk.new wo [.int .i64 1, .int .i64 n, .string ⟨#[]⟩] 24 rfl
          have hOq := Own.kept Hown.out hal
          have hBq := HB.out.trans (hal.mono hz)
          generalize wo.alloc (.cells #[.int .i64 1, .int .i64 n, .string ⟨#[]⟩] 24) = we at *
          obtain ⟨b6, eb6⟩ : ∃ b, b = wo.heap.size := ⟨_, rfl⟩
          rw [← eb6] at hq6 ⊢
          clear eb6
          have hzq := hBq.size
          obtain ⟨v3, w3, hr3, ho3, ha3⟩ := appV1 hOq ⟨1, n, []⟩ rfl (by rw [Hkl.out]; omega) (by omega)
          have HO3 := Lib.hid ho3
          have HB3 := Lib.hid (hBq.trans (ha3.below (B := w.heap.size) (by omega) (fun q e => (Own.lt hOq q e).1)))
          obtain ⟨e0, e1, e2⟩ := hq6.cells.c3
          simp only [Nat.zero_add] at e1 e2
          simp only at hr3
          clear ho3 ha3 hBq hOq hq6 hzq hal
          go_wp2_with (at_builtin; refine AtApp.of ?_)
          refine AtApp.go hr3 rfl rfl rfl rfl ?_
          clear e0 e1 e2
          go_wp2_with fail
          go_roundw
          case rel => exact ⟨k + 1, by omega, by go_num, by rw [Hst.out, Hst2.out]; exact HO3.out, HB3.out⟩
          case measure => simp [intOf]; omega
    · obtain rfl : k = l.length := by omega
      have hO := Hown.out
      rw [List.take_length] at hO
      have hr := HR.out wo _ HB.out hO
      clear hO
      subst hpo
      go_wp2_with fail
      first | exact hr | exact fin hr rfl
end Go.Proofs.Ytpncblagjkbemaa
end

/- A region that draws its order, walked by what each operation's value is like: in whatever order they come up, each value is as its predicate says, and stays so as memory grows. -/
section
set_option linter.unusedVariables false
set_option linter.unusedSimpArgs false
namespace Go.Proofs.Ytpncblagjkbemaa
open Go.RowKit
set_option linter.unusedVariables false
set_option linter.unusedSimpArgs false

def dstAt (ops : Array Oper) (k : Nat) : Option Tmp := (ops[k]?).bind (·.dst)
def waits (o : Oper) (k : Nat) : Bool := o.after.toList.any fun e => e.on == k && Region.binds .any e
/-- The operations whose values this one looks at. -/
def depsOf (ops : Array Oper) (o : Oper) : List Nat := (List.range ops.size).filter fun k => waits o k && (match dstAt ops k with | some t => (o.looksAt ops).contains t | none => false)
def tidyAt (ops : Array Oper) (n i : Nat) : Bool :=
  match ops[i]? with
  | none => false
  | some o => (match o.dst with
    | none => false
    | some d => decide (d < n) && (List.range ops.size).all (fun j => j == i || dstAt ops j != some d)) &&
      (o.looksAt ops).all (fun t => (List.range ops.size).all fun k => dstAt ops k != some t || waits o k || ((ops[k]?).map (waits · i)).getD false) &&
      o.after.toList.all (fun e => !Region.binds .any e || decide (e.on < i)) && (match o.op with | .select _ _ => false | _ => true)
/-- The first m operations are tidy, and each one behind them waits for all of them. -/
def tidy (ops : Array Oper) (n m : Nat) : Bool := (List.range m).all (tidyAt ops n) && (List.range ops.size).all (fun i => decide (i < m) || ((ops[i]?).map fun o => (List.range m).all (waits o)).getD false) && decide (m ≤ ops.size)
def listedM (m n : Nat) : Array Bool := Array.replicate m true ++ Array.replicate (n - m) false
def putAll (ops : Array Oper) (vals : Nat → Value) (L : List Nat) (a : Act) : Act := L.foldl (fun a k => a.put (dstAt ops k) (vals k)) a
def frameAt (ops : Array Oper) (a0 : Act) (o : Oper) (vals : Nat → Value) : Act := putAll ops vals (depsOf ops o) a0
/-- One operation does as R says. -/
def OpStep (P : Program) (ops : Array Oper) (o : Oper) (a : Act) (w : World) (R : Value → World → Prop) : Prop :=
  (Region.wanted o (yielded ops a.tmps) = true ∧ ((∃ v w', (execOp a.eval o).run P w = .ok (.value v) w' ∧ R v w') ∨ (∃ f args, (execOp a.eval o).run P w = .ok (.enter f args) w ∧ Calls P f args w fun e w' => ∃ v, e = .returned v ∧ R v w'))) ∨
  (Region.wanted o (yielded ops a.tmps) = false ∧ R undef w)
def StepAt (P : Program) (ops : Array Oper) (a0 : Act) (W : World) (Pi : Nat → Value → World → Prop) (i : Nat) : Prop :=
  ∀ o, ops[i]? = some o → ∀ (vals : Nat → Value) (w : World), Below W.heap.size W w → (∀ k ∈ depsOf ops o, Pi k (vals k) w) → OpStep P ops o (frameAt ops a0 o vals) w (fun v w' => Below w.heap.size w w' ∧ Pi i v w')
theorem listedM_at (m n k : Nat) (h : m ≤ n) : (listedM m n)[k]? = if k < m then some true else if k < n then some false else none := by
  unfold listedM
  rw [Array.getElem?_append]
  simp only [Array.size_replicate, Array.getElem?_replicate]
  by_cases hk : k < m
  · simp [hk]
  · rw [if_neg hk, if_neg hk]
    by_cases h2 : k < n
    · rw [if_pos h2, if_pos (by omega)]
    · rw [if_neg h2, if_neg (by omega)]
theorem putAll_size (ops : Array Oper) (vals : Nat → Value) : ∀ (L : List Nat) (a : Act), (putAll ops vals L a).tmps.size = a.tmps.size
  | [], _ => rfl
  | k :: L, a => by
    show (putAll ops vals L (a.put (dstAt ops k) (vals k))).tmps.size = _
    rw [putAll_size ops vals L]
    cases dstAt ops k <;> simp [Act.put]
theorem putAll_defers (ops : Array Oper) (vals : Nat → Value) : ∀ (L : List Nat) (a : Act), (putAll ops vals L a).defers = a.defers
  | [], _ => rfl
  | k :: L, a => by
    show (putAll ops vals L (a.put (dstAt ops k) (vals k))).defers = _
    rw [putAll_defers ops vals L]
    cases dstAt ops k <;> simp [Act.put]
theorem put_other {a : Act} {d : Option Tmp} {t : Tmp} (h : d ≠ some t) (v : Value) : (a.put d v).tmps[t]? = a.tmps[t]? := by
  cases d with
  | none => rfl
  | some d =>
    have hne : d ≠ t := fun e => h (e ▸ rfl)
    simp [Act.put, Array.getElem?_setIfInBounds_ne hne]
theorem put_self {a : Act} {t : Tmp} (h : t < a.tmps.size) (v : Value) : (a.put (some t) v).tmps[t]? = some v := by
  simp [Act.put, Array.getElem?_setIfInBounds_self, h]
theorem putAll_other {ops : Array Oper} {vals : Nat → Value} {t : Tmp} : ∀ (L : List Nat) (a : Act), (∀ k ∈ L, dstAt ops k ≠ some t) → (putAll ops vals L a).tmps[t]? = a.tmps[t]?
  | [], _, _ => rfl
  | k :: L, a, h => by
    show (putAll ops vals L (a.put (dstAt ops k) (vals k))).tmps[t]? = _
    rw [putAll_other L _ (fun j hj => h j (List.mem_cons_of_mem _ hj)), put_other (h k List.mem_cons_self)]
theorem putAll_at {ops : Array Oper} {vals : Nat → Value} {t : Tmp} {k : Nat} (hk : dstAt ops k = some t) : ∀ (L : List Nat) (a : Act), k ∈ L → t < a.tmps.size → (∀ j ∈ L, dstAt ops j = some t → j = k) → (putAll ops vals L a).tmps[t]? = some (vals k)
  | [], _, h, _, _ => by cases h
  | j :: L, a, h, ht, hu => by
    show (putAll ops vals L (a.put (dstAt ops j) (vals j))).tmps[t]? = _
    by_cases hL : k ∈ L
    · exact putAll_at hk L _ hL (by cases dstAt ops j <;> simpa [Act.put] using ht) (fun i hi => hu i (List.mem_cons_of_mem _ hi))
    · have hjk : k = j := (List.mem_cons.1 h).resolve_right hL
      subst hjk
      rw [putAll_other L _ (fun i hi e => hL (by rw [← hu i (List.mem_cons_of_mem _ hi) e]; exact hi)), hk, put_self ht]
section
variable {P : Program} {ops : Array Oper} {a0 : Act} {W : World} {Pi : Nat → Value → World → Prop} {m : Nat}
structure Inv (ops : Array Oper) (m : Nat) (a0 : Act) (W : World) (Pi : Nat → Value → World → Prop) (listed : Array Bool) (vals : Nat → Value) (a : Act) (w : World) : Prop where
  below : Below W.heap.size W w
  upto : ∀ k, listed.getD k false = true → k < m
  lsize : listed.size = ops.size
  defers : a.defers = a0.defers
  size : a.tmps.size = a0.tmps.size
  base : ∀ t, (∀ k, dstAt ops k = some t → listed.getD k false = false) → a.tmps[t]? = a0.tmps[t]?
  val : ∀ k t, dstAt ops k = some t → listed.getD k false = true → a.tmps[t]? = some (vals k)
  post : ∀ k, listed.getD k false = true → Pi k (vals k) w
  closed : ∀ k ok, ops[k]? = some ok → listed.getD k false = true → ∀ e ∈ ok.after, Region.binds .any e = true → listed.getD e.on false = true
theorem tidy_at (h : tidy ops a0.tmps.size m = true) {i : Nat} (hm : i < m) {o : Oper} (ho : ops[i]? = some o) :
    (∃ d, o.dst = some d ∧ d < a0.tmps.size ∧ ∀ j, dstAt ops j = some d → j = i) ∧ (∀ t ∈ o.looksAt ops, ∀ k, dstAt ops k = some t → waits o k = true ∨ ∃ ok, ops[k]? = some ok ∧ waits ok i = true) ∧
      (∀ e ∈ o.after, Region.binds .any e = true → e.on < i) ∧ ∀ cs b, o.op ≠ .select cs b := by
  have hi : i < ops.size := (Array.getElem?_eq_some_iff.1 ho).1
  unfold tidy at h
  rw [Bool.and_eq_true, Bool.and_eq_true] at h
  have h1 := List.all_eq_true.1 h.1.1 i (List.mem_range.2 hm)
  unfold tidyAt at h1
  rw [ho] at h1
  simp only [Bool.and_eq_true] at h1
  obtain ⟨⟨⟨h1, h2⟩, h3⟩, h4⟩ := h1
  have hr : ∀ k t, dstAt ops k = some t → k < ops.size := fun k t hk => by
    unfold dstAt at hk
    cases hok : ops[k]? with
    | none => rw [hok] at hk; cases hk
    | some ok => exact (Array.getElem?_eq_some_iff.1 hok).1
  refine ⟨?_, ?_, ?_, ?_⟩
  · cases hd : o.dst with
    | none => rw [hd] at h1; cases h1
    | some d =>
      rw [hd] at h1
      simp only [Bool.and_eq_true, decide_eq_true_eq] at h1
      refine ⟨d, rfl, h1.1, fun j hj => ?_⟩
      have := List.all_eq_true.1 h1.2 j (List.mem_range.2 (hr j d hj))
      rw [hj] at this
      simpa using this
  · intro t ht k hk
    have := List.all_eq_true.1 (List.all_eq_true.1 h2 t ht) k (List.mem_range.2 (hr k t hk))
    rw [hk] at this
    simp only [bne_self_eq_false, Bool.false_or, Bool.or_eq_true] at this
    rcases this with h | h
    · exact .inl h
    · cases hok : ops[k]? with
      | none => rw [hok] at h; cases h
      | some ok => rw [hok] at h; exact .inr ⟨ok, rfl, h⟩
  · intro e he hb
    have := List.all_eq_true.1 h3 e (by simpa using he)
    rw [hb] at this
    simpa using this
  · intro cs b e
    rw [e] at h4
    cases h4
theorem waits_iff {o : Oper} {k : Nat} : waits o k = true ↔ ∃ e ∈ o.after, e.on = k ∧ Region.binds .any e = true := by
  unfold waits
  rw [List.any_eq_true]
  constructor
  · rintro ⟨e, he, h⟩
    rw [Bool.and_eq_true, beq_iff_eq] at h
    exact ⟨e, by simpa using he, h⟩
  · rintro ⟨e, he, h⟩
    exact ⟨e, by simpa using he, by rw [Bool.and_eq_true, beq_iff_eq]; exact h⟩
theorem deps_mem {o : Oper} {k : Nat} : k ∈ depsOf ops o ↔ k < ops.size ∧ waits o k = true ∧ ∃ t, dstAt ops k = some t ∧ t ∈ o.looksAt ops := by
  unfold depsOf
  rw [List.mem_filter, List.mem_range, Bool.and_eq_true]
  constructor
  · rintro ⟨h1, h2, h3⟩
    cases hd : dstAt ops k with
    | none => rw [hd] at h3; cases h3
    | some t => rw [hd] at h3; exact ⟨h1, h2, t, rfl, by simpa using h3⟩
  · rintro ⟨h1, h2, t, hd, h3⟩
    exact ⟨h1, h2, by rw [hd]; simpa using h3⟩
theorem frame_looks (ht : tidy ops a0.tmps.size m = true) {listed : Array Bool} {vals : Nat → Value} {a : Act} {w : World} (hI : Inv ops m a0 W Pi listed vals a w) {i : Nat} {o : Oper} (him : i < m) (ho : ops[i]? = some o) (hr : i ∈ Region.ready .any ops listed) :
    ∀ t ∈ o.looksAt ops, (frameAt ops a0 o vals).tmps[t]? = a.tmps[t]? := by
  obtain ⟨hun, o', ho', hall⟩ := mem_ready.1 hr
  obtain rfl : o = o' := by rw [ho] at ho'; injection ho'
  obtain ⟨-, hlook, -, -⟩ := tidy_at ht him ho
  intro t htl
  unfold frameAt
  by_cases hk : ∃ k ∈ depsOf ops o, dstAt ops k = some t
  · obtain ⟨k, hkd, hkt⟩ := hk
    obtain ⟨hks, hkw, -⟩ := deps_mem.1 hkd
    obtain ⟨e, he, rfl, hb⟩ := waits_iff.1 hkw
    obtain ⟨ok, hok⟩ : ∃ ok, ops[e.on]? = some ok := ⟨ops[e.on], by simp [hks]⟩
    have hem : e.on < m := hI.upto _ (hall e he hb)
    obtain ⟨⟨d, hd, hdn, hu⟩, -, -, -⟩ := tidy_at ht hem hok
    have hdt : d = t := by
      unfold dstAt at hkt
      rw [hok] at hkt
      simp only [Option.bind_some] at hkt
      rw [hd] at hkt
      injection hkt
    subst hdt
    rw [putAll_at hkt _ _ hkd hdn (fun j _ hj => hu j hj), hI.val _ _ hkt (hall e he hb)]
  · rw [putAll_other _ _ (fun k hkd hkt => hk ⟨k, hkd, hkt⟩), hI.base t (fun k hkt => ?_)]
    have hks : k < ops.size := by
      unfold dstAt at hkt
      cases hok : ops[k]? with
      | none => rw [hok] at hkt; cases hkt
      | some ok => exact (Array.getElem?_eq_some_iff.1 hok).1
    rcases hlook t htl k hkt with hw | ⟨ok, hok, hw⟩
    · exact absurd ⟨k, deps_mem.2 ⟨hks, hw, t, hkt, htl⟩, hkt⟩ hk
    · cases hl : listed.getD k false with
      | false => rfl
      | true =>
        obtain ⟨e, he, he2, hb⟩ := waits_iff.1 hw
        have h1 := hI.closed k ok hok hl e he hb
        rw [he2] at h1
        rcases Nat.lt_or_ge i listed.size with h' | h'
        · simp [h'] at hun h1
          rw [hun] at h1
          cases h1
        · simp [Array.getElem?_eq_none h'] at h1
theorem Inv.start (hB : Below W.heap.size W W) (vals : Nat → Value) : Inv ops m a0 W Pi (Array.replicate ops.size false) vals a0 W := by
  have hf : ∀ k, (Array.replicate ops.size false).getD k false = false := fun k => by
    rcases Nat.lt_or_ge k ops.size with h | h <;> simp [h]
  exact ⟨hB, fun k h => absurd h (by rw [hf]; decide), by simp, rfl, rfl, fun _ _ => rfl, fun k t _ h => absurd h (by rw [hf]; decide), fun k h => absurd h (by rw [hf]; decide), fun k ok _ h => absurd h (by rw [hf]; decide)⟩
/-- One more has come up. -/
theorem Inv.step (ht : tidy ops a0.tmps.size m = true) (hst : ∀ i v w w', Pi i v w → Below w.heap.size w w' → Pi i v w') {listed : Array Bool} {vals : Nat → Value} {a : Act} {w w' : World} (hI : Inv ops m a0 W Pi listed vals a w) {i : Nat} {o : Oper} (him : i < m) (ho : ops[i]? = some o)
    (hr : i ∈ Region.ready .any ops listed) {v : Value} (hB : Below w.heap.size w w') (hP : Pi i v w') : Inv ops m a0 W Pi (listed.setIfInBounds i true) (fun k => if k = i then v else vals k) (a.put o.dst v) w' := by
  obtain ⟨hun, o', ho', hall⟩ := mem_ready.1 hr
  obtain rfl : o = o' := by rw [ho] at ho'; injection ho'
  obtain ⟨⟨d, hd, hdn, hu⟩, -, hlt, -⟩ := tidy_at ht him ho
  have hi : i < listed.size := by rw [hI.lsize]; exact (Array.getElem?_eq_some_iff.1 ho).1
  have hset : ∀ k, (listed.setIfInBounds i true).getD k false = if k = i then true else listed.getD k false := fun k => by
    by_cases h : k = i
    · subst h; simp [hi]
    · rw [if_neg h, getD_set_ne false (Ne.symm h)]
  have hdi : dstAt ops i = some d := by unfold dstAt; rw [ho]; exact hd
  refine ⟨hI.below.trans (hB.mono hI.below.size), fun k hk => by
    rw [hset] at hk
    split at hk
    · rename_i e; subst e; exact him
    · exact hI.upto k hk, by simp [hI.lsize], by rw [← hI.defers]; cases o.dst <;> rfl, by rw [← hI.size]; cases o.dst <;> simp [Act.put], fun t hb => ?_, fun k t hk hl => ?_, fun k hl => ?_, fun k ok hok hl e he hb => ?_⟩
  · have hne : o.dst ≠ some t := fun e => by
      have := hb i (by unfold dstAt; rw [ho]; exact e)
      rw [hset, if_pos rfl] at this
      cases this
    rw [put_other hne, hI.base t (fun k hk => ?_)]
    have := hb k hk
    rw [hset] at this
    split at this
    · cases this
    · exact this
  · rw [hset] at hl
    by_cases h : k = i
    · subst h
      rw [hdi] at hk
      injection hk with hk
      subst hk
      rw [hd, put_self (by rw [hI.size]; exact hdn)]
      simp
    · rw [if_neg h] at hl
      have hne : o.dst ≠ some t := fun e => by
        rw [hd] at e
        injection e with e
        subst e
        exact h (hu k hk)
      rw [put_other hne, hI.val k t hk hl]
      simp [h]
  · rw [hset] at hl
    by_cases h : k = i
    · subst h; simpa using hP
    · rw [if_neg h] at hl
      simp only [h, if_false]
      exact hst _ _ _ _ (hI.post k hl) hB
  · rw [hset] at hl ⊢
    by_cases h : k = i
    · subst h
      obtain rfl : o = ok := by rw [ho] at hok; injection hok
      split
      · rfl
      · exact hall e he hb
    · rw [if_neg h] at hl
      split
      · rfl
      · exact hI.closed k ok hok hl e he hb
theorem wpAny_inv {Q : Exit → Act → World → Prop} (ht : tidy ops a0.tmps.size m = true) (hst : ∀ i v w w', Pi i v w → Below w.heap.size w w' → Pi i v w') (hstep : ∀ i, i < m → StepAt P ops a0 W Pi i)
    (hend : ∀ (vals : Nat → Value) (w : World), Below W.heap.size W w → (∀ k, k < m → Pi k (vals k) w) → wpAny P .any ops Q (ops.size - m) (listedM m ops.size) (putAll ops vals (List.range m) a0) w) :
    ∀ (c : Nat) (listed : Array Bool) (vals : Nat → Value) (a : Act) (w : World), Inv ops m a0 W Pi listed vals a w → (List.range m).countP (fun k => !listed.getD k false) = c → wpAny P .any ops Q (ops.size - m + c) listed a w := by
  have ht2 := ht
  unfold tidy at ht2
  rw [Bool.and_eq_true, Bool.and_eq_true, decide_eq_true_eq] at ht2
  obtain ⟨⟨-, hrest⟩, hms⟩ := ht2
  intro c
  induction c with
  | zero =>
    intro listed vals a w hI hc
    have hall : ∀ k, k < m → listed.getD k false = true := fun k hk => by
      have h0 := List.countP_eq_zero.1 hc k (List.mem_range.2 hk)
      simpa using h0
    have hl : listed = listedM m ops.size := by
      apply Array.ext_getElem?
      intro k
      rw [listedM_at m ops.size k hms]
      by_cases hk : k < m
      · rw [if_pos hk]
        have h3 := hall k hk
        have hks : k < listed.size := by rw [hI.lsize]; omega
        have e1 : listed[k] = true := by simpa [hks] using h3
        simp [hks, e1]
      · rw [if_neg hk]
        by_cases hks : k < ops.size
        · rw [if_pos hks]
          have hks' : k < listed.size := by rw [hI.lsize]; exact hks
          have e1 : listed[k] = false := by
            cases h4 : listed[k] with
            | false => rfl
            | true => exact absurd (hI.upto k (by simp [hks', h4])) hk
          simp [hks', e1]
        · rw [if_neg hks, Array.getElem?_eq_none]
          rw [hI.lsize]; omega
    have ha : a = putAll ops vals (List.range m) a0 := by
      have h1 : a.tmps = (putAll ops vals (List.range m) a0).tmps := by
        apply Array.ext_getElem?
        intro t
        by_cases hk : ∃ k, k < m ∧ dstAt ops k = some t
        · obtain ⟨k, hkm, hkt⟩ := hk
          have hks : k < ops.size := by omega
          have hok : ops[k]? = some ops[k] := by simp [hks]
          obtain ⟨⟨d, hd, hdn, hu⟩, -, -, -⟩ := tidy_at ht hkm hok
          have hdt : d = t := by
            unfold dstAt at hkt
            rw [hok] at hkt
            simp only [Option.bind_some] at hkt
            rw [hd] at hkt
            injection hkt
          subst hdt
          rw [hI.val k _ hkt (hall k hkm), putAll_at hkt _ _ (List.mem_range.2 hkm) hdn (fun j _ hj => hu j hj)]
        · rw [putAll_other _ _ (fun k hkL hkt => hk ⟨k, List.mem_range.1 hkL, hkt⟩), hI.base t (fun k hkt => by
            cases h4 : listed.getD k false with
            | false => rfl
            | true => exact absurd ⟨k, hI.upto k h4, hkt⟩ hk)]
      have h2 : a.defers = (putAll ops vals (List.range m) a0).defers := by rw [putAll_defers, hI.defers]
      cases a
      cases hp : putAll ops vals (List.range m) a0
      rw [hp] at h1 h2
      simp only at h1 h2
      rw [h1, h2]
    rw [hl, ha]
    exact hend vals w hI.below (fun k hk => hI.post k (hall k hk))
  | succ c ih =>
    intro listed vals a w hI hc
    have hex : ∃ k, k < m ∧ listed.getD k false = false := by
      refine Classical.byContradiction fun hn => ?_
      have h0 : (List.range m).countP (fun k => !listed.getD k false) = 0 := List.countP_eq_zero.2 (fun k hk => by
        cases h4 : listed.getD k false with
        | true => simp
        | false => exact absurd ⟨k, List.mem_range.1 hk, h4⟩ hn)
      omega
    have hready : Region.ready .any ops listed ≠ [] := by
      intro hr
      have hall : ∀ n k, k < n → k < m → listed.getD k false = true := by
        intro n
        induction n with
        | zero => intro k h; omega
        | succ n ihn =>
          intro k hk hkm
          cases hl : listed.getD k false with
          | true => rfl
          | false =>
            exfalso
            have hks : k < ops.size := by omega
            have hok : ops[k]? = some ops[k] := by simp [hks]
            have : k ∈ Region.ready .any ops listed := mem_ready.2 ⟨by
              have hkl : k < listed.size := by rw [hI.lsize]; exact hks
              simp [hkl] at hl ⊢
              exact hl, _, hok, fun e he hb => by
              have hlt := (tidy_at ht hkm hok).2.2.1 e he hb
              exact ihn e.on (by omega) (by omega)⟩
            rw [hr] at this
            cases this
      obtain ⟨k, hkm, hkf⟩ := hex
      rw [hall (k + 1) k (by omega) hkm] at hkf
      cases hkf
    refine ⟨fun hr => absurd hr hready, fun i hi => ?_⟩
    obtain ⟨hun, o, ho, hall⟩ := mem_ready.1 hi
    have his : i < ops.size := (Array.getElem?_eq_some_iff.1 ho).1
    have him : i < m := by
      refine Classical.byContradiction fun hn => ?_
      have h1 := List.all_eq_true.1 hrest i (List.mem_range.2 his)
      rw [ho, Bool.or_eq_true, decide_eq_true_eq] at h1
      rcases h1 with h1 | h1
      · exact hn h1
      · simp only [Option.map_some, Option.getD_some] at h1
        obtain ⟨k, hkm, hkf⟩ := hex
        obtain ⟨e, he, he2, hb⟩ := waits_iff.1 (List.all_eq_true.1 h1 k (List.mem_range.2 hkm))
        have := hall e he hb
        rw [he2, hkf] at this
        cases this
    have hil : i < listed.size := by rw [hI.lsize]; exact his
    have hlooks := frame_looks ht hI him ho hi
    have hS := hstep i him o ho vals w hI.below (fun k hk => by
      obtain ⟨hks, hkw, -⟩ := deps_mem.1 hk
      obtain ⟨e, he, rfl, hb⟩ := waits_iff.1 hkw
      exact hI.post _ (hall e he hb))
    have hcount : (List.range m).countP (fun k => !(listed.setIfInBounds i true).getD k false) = c := by
      have h1 : (List.range m).countP (fun k => !(listed.setIfInBounds i true).getD k false) + 1 = (List.range m).countP (fun k => !listed.getD k false) := by
        have key : ∀ L : List Nat, L.Nodup → i ∈ L → L.countP (fun k => !(listed.setIfInBounds i true).getD k false) + 1 = L.countP (fun k => !listed.getD k false) := by
          have heq : ∀ L : List Nat, i ∉ L → L.countP (fun k => !(listed.setIfInBounds i true).getD k false) = L.countP (fun k => !listed.getD k false) := fun L hL =>
            List.countP_congr (fun k hk => by
              have h : i ≠ k := by rintro rfl; exact hL hk
              rw [getD_set_ne false h])
          intro L
          induction L with
          | nil => intro _ h; cases h
          | cons k L ihL =>
            intro hnd h
            obtain ⟨hk1, hk2⟩ := List.nodup_cons.1 hnd
            rw [List.countP_cons, List.countP_cons]
            by_cases hki : i = k
            · subst hki
              have e1 : (!(listed.setIfInBounds i true).getD i false) = false := by simp [hil]
              have e2 : (!listed.getD i false) = true := by simp [hil] at hun ⊢; exact hun
              rw [e1, e2, if_neg (by decide), if_pos rfl, heq L hk1]
            · have := ihL hk2 ((List.mem_cons.1 h).resolve_left hki)
              rw [getD_set_ne false hki]
              omega
        exact key _ List.nodup_range (List.mem_range.2 him)
      omega
    have go : ∀ v w', Below w.heap.size w w' → Pi i v w' → wpAny P .any ops Q (ops.size - m + c) (listed.setIfInBounds i true) (a.put o.dst v) w' := fun v w' hB hP => ih _ _ _ _ (hI.step ht hst him ho hi hB hP) hcount
    have hwant : Region.wanted o (yielded ops a.tmps) = Region.wanted o (yielded ops (frameAt ops a0 o vals).tmps) := by
      unfold Region.wanted
      cases hg : o.guard with
      | none => rfl
      | some gw =>
        obtain ⟨g, want⟩ := gw
        have hy : yielded ops a.tmps g = yielded ops (frameAt ops a0 o vals).tmps g := by
          unfold yielded
          cases htg : (ops[g]?).bind (·.dst) with
          | none => rfl
          | some t =>
            have := hlooks t (by simp [Oper.looksAt, hg, htg])
            simp only [Option.bind_some, this]
        simp only [hy]
    have hex : execOp a.eval o = execOp (frameAt ops a0 o vals).eval o := by
      refine execOp_congr o (tidy_at ht him ho).2.2.2 (fun x hx => ?_)
      cases x with
      | tmp t =>
        have := hlooks t (List.mem_append_left _ (List.mem_filterMap.2 ⟨.tmp t, by simpa using hx, rfl⟩))
        simp only [Act.eval, Array.getD_eq_getD_getElem?, this]
      | _ => rfl
    unfold wpOp
    simp only [ho]
    rw [hwant]
    rcases hS with ⟨hw, hS⟩ | ⟨hw, hS⟩
    · rw [if_pos hw]
      refine .inl ?_
      unfold Oper.wp
      rw [hex]
      rcases hS with ⟨v, w', hrun, hB, hP⟩ | ⟨f, args, hrun, hc⟩
      · rw [hrun]
        exact go v w' hB hP
      · rw [hrun]
        refine Calls.mono hc ?_
        rintro e w' ⟨v, rfl, hB, hP⟩
        exact go v w' hB hP
    · rw [if_neg (by rw [hw]; decide)]
      exact go undef w hS.1 hS.2
/-- **A region that draws its order**, of which the first m operations are walked by what their values are like. -/
theorem wp_region_inv {Q : Exit → Act → World → Prop} {id : Nat} (w0 : World) (Pi : Nat → Value → World → Prop) (hm : P.follows .mixedOrders = true) (ht : tidy ops a0.tmps.size m = true) (hst : ∀ i v w w', Pi i v w → Below w.heap.size w w' → Pi i v w')
    (hstep : ∀ i, i < m → StepAt P ops a0 w0.drew Pi i)
    (hend : ∀ (vals : Nat → Value) (w : World), Below w0.heap.size w0.drew w → (∀ k, k < m → Pi k (vals k) w) → wpAny P .any ops Q (ops.size - m) (listedM m ops.size) (putAll ops vals (List.range m) a0) w) : (Code.region id ops true).wp P Q a0 w0 := by
  have h1 := wpAny_inv (W := w0.drew) ht hst hstep hend _ (Array.replicate ops.size false) (fun _ => undef) a0 w0.drew (Inv.start (Below.refl _ _) _) rfl
  have h2 : (List.range m).countP (fun k => !(Array.replicate ops.size false).getD k false) = m := by
    have : (List.range m).countP (fun k => !(Array.replicate ops.size false).getD k false) = (List.range m).length := List.countP_eq_length.2 (fun k _ => by
      rcases Nat.lt_or_ge k ops.size with h | h <;> simp [h])
    rw [this, List.length_range]
  rw [h2] at h1
  have hms : m ≤ ops.size := by
    unfold tidy at ht
    rw [Bool.and_eq_true, decide_eq_true_eq] at ht
    exact ht.2
  rw [Nat.sub_add_cancel hms] at h1
  exact wp_region_any hm h1
end
section
variable {P : Program} {ops : Array Oper} {a0 : Act} {W : World} {Pi : Nat → Value → World → Prop}
theorem StepAt.mk {i : Nat} {o : Oper} (ho : ops[i]? = some o) (ds : List (Nat × Tmp)) (hd : (depsOf ops o == ds.map (·.1)) = true) (hs : ds.all (fun p => dstAt ops p.1 == some p.2) = true)
    (h : ∀ (vals : Nat → Value) (w : World), Below W.heap.size W w → (∀ p ∈ ds, Pi p.1 (vals p.1) w) → OpStep P ops o (ds.foldl (fun a p => a.put (some p.2) (vals p.1)) a0) w (fun v w' => Below w.heap.size w w' ∧ Pi i v w')) : StepAt P ops a0 W Pi i := by
  intro o' ho' vals w hB hD
  rw [ho] at ho'
  injection ho' with ho'
  subst ho'
  have hd := eq_of_beq hd
  have e : frameAt ops a0 o vals = ds.foldl (fun a p => a.put (some p.2) (vals p.1)) a0 := by
    unfold frameAt putAll
    rw [hd]
    have key : ∀ (L : List (Nat × Tmp)) (a : Act), (∀ p ∈ L, dstAt ops p.1 = some p.2) → (L.map (·.1)).foldl (fun (a : Act) (k : Nat) => a.put (dstAt ops k) (vals k)) a = L.foldl (fun (a : Act) (p : Nat × Tmp) => a.put (some p.2) (vals p.1)) a := by
      intro L
      induction L with
      | nil => intro a _; rfl
      | cons p L ih =>
        intro a hp
        rw [List.map_cons, List.foldl_cons, List.foldl_cons, hp p List.mem_cons_self]
        exact ih _ (fun q hq => hp q (List.mem_cons_of_mem _ hq))
    exact key ds a0 (fun p hp => by have := List.all_eq_true.1 hs p hp; simpa using this)
  rw [e]
  exact h vals w hB (fun p hp => hD p.1 (by rw [hd]; exact List.mem_map.2 ⟨p, hp, rfl⟩))
theorem OpStep.val {o : Oper} {a : Act} {w w' : World} {v : Value} {R : Value → World → Prop} (hr : (execOp a.eval o).run P w = .ok (.value v) w') (hw : Region.wanted o (yielded ops a.tmps) = true) (h1 : Below w.heap.size w w') (h2 : R v w') : OpStep P ops o a w (fun v w' => Below w.heap.size w w' ∧ R v w') :=
  .inl ⟨hw, .inl ⟨v, w', hr, h1, h2⟩⟩
theorem OpStep.call {o : Oper} {a : Act} {w : World} {f : FuncId} {args : Array Value} {R : Value → World → Prop} (hr : (execOp a.eval o).run P w = .ok (.enter f args) w) (hw : Region.wanted o (yielded ops a.tmps) = true)
    (hc : Calls P f args w fun e w' => ∃ v, e = .returned v ∧ Below w.heap.size w w' ∧ R v w') : OpStep P ops o a w (fun v w' => Below w.heap.size w w' ∧ R v w') :=
  .inl ⟨hw, .inr ⟨f, args, hr, hc⟩⟩
theorem OpStep.no {o : Oper} {a : Act} {w : World} {R : Value → World → Prop} (hw : Region.wanted o (yielded ops a.tmps) = false) (h2 : R undef w) : OpStep P ops o a w (fun v w' => Below w.heap.size w w' ∧ R v w') :=
  .inr ⟨hw, Below.refl _ _, h2⟩
def Steps (P : Program) (ops : Array Oper) (a0 : Act) (W : World) (Pi : Nat → Value → World → Prop) : Nat → Nat → Prop
  | _, 0 => True
  | i, n + 1 => StepAt P ops a0 W Pi i ∧ Steps P ops a0 W Pi (i + 1) n
theorem Steps.at : ∀ (n i : Nat), Steps P ops a0 W Pi i n → ∀ k, i ≤ k → k < i + n → StepAt P ops a0 W Pi k
  | 0, i, _, k, h1, h2 => by omega
  | n + 1, i, h, k, h1, h2 => by
    by_cases hk : k = i
    · subst hk; exact h.1
    · exact Steps.at n (i + 1) h.2 k (by omega) (by omega)
theorem putAll_slots (ops : Array Oper) (vals : Nat → Value) (L : List (Nat × Tmp)) (a : Act) (hs : L.all (fun p => dstAt ops p.1 == some p.2) = true) : putAll ops vals (L.map (·.1)) a = L.foldl (fun a p => a.put (some p.2) (vals p.1)) a := by
  unfold putAll
  have key : ∀ (L : List (Nat × Tmp)) (a : Act), (∀ p ∈ L, dstAt ops p.1 = some p.2) → (L.map (·.1)).foldl (fun (a : Act) (k : Nat) => a.put (dstAt ops k) (vals k)) a = L.foldl (fun (a : Act) (p : Nat × Tmp) => a.put (some p.2) (vals p.1)) a := by
    intro L
    induction L with
    | nil => intro a _; rfl
    | cons p L ih =>
      intro a hp
      rw [List.map_cons, List.foldl_cons, List.foldl_cons, hp p List.mem_cons_self]
      exact ih _ (fun q hq => hp q (List.mem_cons_of_mem _ hq))
  exact key L a (fun p hp => by have := List.all_eq_true.1 hs p hp; simpa using this)
/-- **A region that draws its order**, its operations counted, the first m of n by what their values are like; ds: which slot each one writes. -/
theorem wp_region_steps_to {Q : Exit → Act → World → Prop} {id : Nat} (w0 : World) (Pi : Nat → Value → World → Prop) (n m : Nat) (S : World → Prop) (ds : List (Nat × Tmp)) (hn : (ops.size == n) = true) (hd : (ds.map (·.1) == List.range m) = true) (hs : ds.all (fun p => dstAt ops p.1 == some p.2) = true) (hm : P.follows .mixedOrders = true) (ht : tidy ops a0.tmps.size m = true)
    (hst : ∀ i v w w', Pi i v w → Below w.heap.size w w' → Pi i v w') (hstep : Steps P ops a0 w0 Pi 0 m)
    (hend : ∀ (vals : Nat → Value) (w : World), Below w0.heap.size w0 w → (∀ k, k < m → Pi k (vals k) w) → wpAnyH P .any ops Q S (n - m) (listedM m n) (ds.foldl (fun a p => a.put (some p.2) (vals p.1)) a0) w) : (Code.region id ops true).wp P Q a0 w0 := by
  have hn := eq_of_beq hn
  subst hn
  have hd := eq_of_beq hd
  exact wp_region_inv w0 Pi hm ht hst (fun i hi o ho vals w hB => Steps.at _ 0 hstep i (Nat.zero_le _) (by omega) o ho vals w ((Below.refl _ _).drew.trans hB)) (fun vals w hB hV => by
    rw [← hd, putAll_slots ops vals ds a0 hs]
    exact wpAny_of_held _ _ _ _ (hend vals w ((Below.refl _ _).drew.trans hB) hV))
theorem wp_region_steps {Q : Exit → Act → World → Prop} {id : Nat} (w0 : World) (Pi : Nat → Value → World → Prop) (n : Nat) (ds : List (Nat × Tmp)) (hn : (ops.size == n) = true) (hd : (ds.map (·.1) == List.range n) = true) (hs : ds.all (fun p => dstAt ops p.1 == some p.2) = true) (hm : P.follows .mixedOrders = true) (ht : tidy ops a0.tmps.size n = true)
    (hst : ∀ i v w w', Pi i v w → Below w.heap.size w w' → Pi i v w') (hstep : Steps P ops a0 w0 Pi 0 n)
    (hend : ∀ (vals : Nat → Value) (w : World), Below w0.heap.size w0 w → (∀ k, k < n → Pi k (vals k) w) → Q .normal (ds.foldl (fun a p => a.put (some p.2) (vals p.1)) a0) w) : (Code.region id ops true).wp P Q a0 w0 := by
  refine wp_region_steps_to w0 Pi n n (fun _ => True) ds hn hd hs hm ht hst hstep (fun vals w hB hV => ?_)
  have hn := eq_of_beq hn
  subst hn
  refine wpAnyH_done ?_ (hend vals w hB hV) _
  rw [List.eq_nil_iff_forall_not_mem]
  intro i hi
  obtain ⟨hun, o, ho, -⟩ := mem_ready.1 hi
  have his : i < ops.size := (Array.getElem?_eq_some_iff.1 ho).1
  simp [listedM, his] at hun
end
end Go.Proofs.Ytpncblagjkbemaa
end

/- What values of the closed laws are like, in words that stay as memory grows; what the chapter's small functions make of them. -/
section
set_option linter.unusedVariables false
set_option linter.unusedSimpArgs false
namespace Go.Proofs.Ytpncblagjkbemaa
open Go.RowKit
set_option linter.unusedVariables false
set_option linter.unusedSimpArgs false
attribute [local go_sem ↓] Go.wp_at_zero Go.wp_at_succ

inductive Pd where
  | const (v : Value)
  | any
  | ints (l : List Int)
  | strs (l : List S)
  | row (x : List V)
  | rows (l : List (List V))
  | rel (cols : List S) (l : List (List V))
  | relerr (cols : List S) (l : List (List V)) (e : Int)
  | box (lo : Nat)
instance : Inhabited Pd := ⟨.any⟩
def Pd.says : Pd → Value → World → Prop
  | .const c, v, _ => v = c
  | .any, _, _ => True
  | .ints l, v, w => Ints 0 w.heap.size w v l
  | .strs l, v, w => Strs 0 w.heap.size w v l
  | .row x, v, w => Row1 0 w.heap.size w v x
  | .rows l, v, w => Rws 0 w.heap.size w v l
  | .rel cols l, v, w => RelV w v cols l
  | .relerr cols l e, v, w => ∃ u, v = .tuple #[u, .int .i64 e] ∧ RelV w u cols l
  | .box lo, v, w => ∃ b, v = .pointer (some ⟨b, 0, none⟩) ∧ lo ≤ b ∧ Blk w b [.slice none 0 0, .slice none 0 0] 34
theorem Sl.grow {α : Type} {E : El α} {size : Nat} {w w' : World} {v : Value} {xs : List α} (h : Sl E size 0 w.heap.size w v xs) (hE : Loc E) (hB : Below w.heap.size w w') : Sl E size 0 w'.heap.size w' v xs :=
  (h.below hE hB (Nat.le_refl _)).mono hE (Nat.zero_le _) hB.size
theorem RelV.below {w w' : World} {v : Value} {cols : List S} {l : List (List V)} (h : RelV w v cols l) (hB : Below w.heap.size w w') : RelV w' v cols l := by
  obtain ⟨pc, qc, pl, ql, rfl, h⟩ := h
  exact ⟨pc, qc, pl, ql, rfl, h.below hB⟩
theorem Pd.step {p : Pd} {v : Value} {w w' : World} (h : p.says v w) (hB : Below w.heap.size w w') : p.says v w' := by
  cases p with
  | const c => exact h
  | any => trivial
  | ints l => exact Sl.grow h Ints.loc hB
  | strs l => exact Sl.grow h Strs.loc hB
  | row x => exact Sl.grow h Row1.loc hB
  | rows l => exact Sl.grow h rowE_loc hB
  | rel cols l => exact RelV.below h hB
  | relerr cols l e =>
    obtain ⟨u, rfl, h⟩ := h
    exact ⟨u, rfl, RelV.below h hB⟩
  | box lo =>
    obtain ⟨b, rfl, h1, h2⟩ := h
    exact ⟨b, rfl, h1, h2.below hB h2.lt⟩
/-- What each value of a region is like. -/
def Pds (ps : List Pd) (i : Nat) : Value → World → Prop := (ps.getD i .any).says
theorem Pds.step {ps : List Pd} : ∀ i v w w', Pds ps i v w → Below w.heap.size w w' → Pds ps i v w' := fun i v w w' h hB => Pd.step h hB
theorem Pd.form_ints {l : List Int} {v : Value} {w : World} (h : (Pd.ints l).says v w) : ∃ p c, v = .slice p l.length c := by obtain ⟨p, c, e, -⟩ := Sl.form h; exact ⟨p, c, e⟩
theorem Pd.form_strs {l : List S} {v : Value} {w : World} (h : (Pd.strs l).says v w) : ∃ p c, v = .slice p l.length c := by obtain ⟨p, c, e, -⟩ := Sl.form h; exact ⟨p, c, e⟩
theorem Pd.form_row {l : List V} {v : Value} {w : World} (h : (Pd.row l).says v w) : ∃ p c, v = .slice p l.length c := by obtain ⟨p, c, e, -⟩ := Sl.form h; exact ⟨p, c, e⟩
theorem Pd.form_rows {l : List (List V)} {v : Value} {w : World} (h : (Pd.rows l).says v w) : ∃ p c, v = .slice p l.length c := by obtain ⟨p, c, e, -⟩ := Sl.form h; exact ⟨p, c, e⟩

/-- What a function hands back, in memory from lo on. -/
def RelVL (lo : Nat) (w : World) (v : Value) (cols : List S) (l : List (List V)) : Prop := ∃ pc qc pl ql, v = .agg #[.slice pc cols.length qc, .slice pl l.length ql] ∧ Strs lo w.heap.size w (.slice pc cols.length qc) cols ∧ Rws lo w.heap.size w (.slice pl l.length ql) l
theorem RelVL.rel {lo : Nat} {w : World} {v : Value} {cols : List S} {l : List (List V)} (h : RelVL lo w v cols l) : RelV w v cols l := by
  obtain ⟨pc, qc, pl, ql, rfl, h1, h2⟩ := h
  exact ⟨pc, qc, pl, ql, rfl, ⟨h1.mono Strs.loc (Nat.zero_le _) (Nat.le_refl _), h2.mono rowE_loc (Nat.zero_le _) (Nat.le_refl _)⟩⟩
theorem RelVL.lower {lo lo' : Nat} {w : World} {v : Value} {cols : List S} {l : List (List V)} (h : RelVL lo w v cols l) (hl : lo' ≤ lo) : RelVL lo' w v cols l := by
  obtain ⟨pc, qc, pl, ql, rfl, h1, h2⟩ := h
  exact ⟨pc, qc, pl, ql, rfl, h1.mono Strs.loc hl (Nat.le_refl _), h2.mono rowE_loc hl (Nat.le_refl _)⟩
theorem RelVL.set {lo b : Nat} {w : World} {v v1 v2 : Value} {cols : List S} {l : List (List V)} (h : RelVL lo w v cols l) (hb : b < lo) : RelVL lo ((w.setCell ⟨b, 0, none⟩ v1).setCell ⟨b, 1, none⟩ v2) v cols l := by
  obtain ⟨pc, qc, pl, ql, rfl, h1, h2⟩ := h
  have hz : ((w.setCell ⟨b, 0, none⟩ v1).setCell ⟨b, 1, none⟩ v2).heap.size = w.heap.size := by simp
  refine ⟨pc, qc, pl, ql, rfl, ?_, ?_⟩
  · rw [hz]; exact (h1.agree Strs.loc (.setCell _ (.inl hb) _)).agree Strs.loc (.setCell _ (.inl hb) _)
  · rw [hz]; exact (h2.agree rowE_loc (.setCell _ (.inl hb) _)).agree rowE_loc (.setCell _ (.inl hb) _)

/-! ### slices that are written down -/
theorem Sl.lit {α : Type} {enc : α → List Value} {size : Nat} (hs : ∀ x, (enc x).length = size) (w : World) (xs : List α) (t : TypeId) {n : Nat} (hn : n = w.heap.size) (hl : xs.length ≤ 1000000) :
    Sl (flat enc) size 0 (w.alloc (.cells (xs.flatMap enc).toArray t)).heap.size (w.alloc (.cells (xs.flatMap enc).toArray t)) (.slice (some ⟨n, 0, none⟩) xs.length xs.length) xs := by
  refine ⟨_, _, rfl, Nat.le_refl _, by unfold maxLen; omega, (fun h => by cases h), fun _ => ⟨n, 0, rfl, Nat.zero_le _, by subst hn; simp, fun k hk => ⟨enc xs[k], hs _, ?_, rfl⟩⟩⟩
  have hc := CellsAt.newAt w (xs.flatMap enc) t hn
  intro j u hu
  have hj : j < size := by have := (List.getElem?_eq_some_iff.1 hu).1; rw [hs] at this; exact this
  have h2 : ∀ (l : List α) (k : Nat) (hk : k < l.length), (l.flatMap enc)[k * size + j]? = (enc l[k])[j]? := by
    intro l
    induction l with
    | nil => intro k hk; cases hk
    | cons a r ih =>
      intro k hk
      cases k with
      | zero =>
        rw [List.flatMap_cons, Nat.zero_mul, Nat.zero_add, List.getElem?_append_left (by rw [hs]; exact hj)]
        rfl
      | succ k =>
        rw [List.flatMap_cons, List.getElem?_append_right (by rw [hs, Nat.succ_mul]; omega), hs]
        have := ih k (by simpa using hk)
        rw [show (k + 1) * size + j - size = k * size + j by rw [Nat.succ_mul]; omega]
        exact this
  have := hc (k * size + j) u (by rw [h2 xs k hk]; exact hu)
  rw [← Nat.add_assoc] at this
  exact this
theorem Pd.intsLit (w : World) (l : List Int) (hl : l.length ≤ 1000000) {n : Nat} (hn : n = w.heap.size) : (Pd.ints l).says (.slice (some ⟨n, 0, none⟩) l.length l.length) (w.alloc (.cells (l.flatMap inE).toArray 2)) :=
  Sl.lit (α := Int) (enc := inE) (size := 1) (fun _ => rfl) w l _ hn hl
theorem Pd.strsLit (w : World) (l : List S) (hl : l.length ≤ 1000000) {n : Nat} (hn : n = w.heap.size) : (Pd.strs l).says (.slice (some ⟨n, 0, none⟩) l.length l.length) (w.alloc (.cells (l.flatMap strE).toArray 9)) :=
  Sl.lit (α := S) (enc := strE) (size := 1) (fun _ => rfl) w l _ hn hl
/-- Values that are rows. -/
def AllRows (w : World) : List Value → List (List V) → Prop
  | [], [] => True
  | v :: vs, x :: xs => (Pd.row x).says v w ∧ AllRows w vs xs
  | _, _ => False
theorem AllRows.len {w : World} : ∀ {vs : List Value} {xs : List (List V)}, AllRows w vs xs → vs.length = xs.length
  | [], [], _ => rfl
  | v :: vs, x :: xs, h => by rw [List.length_cons, List.length_cons, AllRows.len h.2]
  | [], _ :: _, h => h.elim
  | _ :: _, [], h => h.elim
theorem AllRows.at {w : World} : ∀ {vs : List Value} {xs : List (List V)}, AllRows w vs xs → ∀ k (h1 : k < vs.length) (h2 : k < xs.length), (Pd.row xs[k]).says vs[k] w
  | v :: vs, x :: xs, h, 0, _, _ => h.1
  | v :: vs, x :: xs, h, k + 1, h1, h2 => AllRows.at h.2 k (by simpa using h1) (by simpa using h2)
  | [], _ :: _, h, _, _, _ => h.elim
  | _ :: _, [], h, _, _, _ => h.elim
  | [], [], _, _, h1, _ => absurd h1 (Nat.not_lt_zero _)
theorem Pd.rowsLit (w : World) (vs : List Value) (xs : List (List V)) (h : AllRows w vs xs) (hl : xs.length ≤ 1000000) {n : Nat} (hn : n = w.heap.size) : (Pd.rows xs).says (.slice (some ⟨n, 0, none⟩) xs.length xs.length) (w.alloc (.cells vs.toArray 42)) := by
  refine ⟨_, _, rfl, Nat.le_refl _, by unfold maxLen; omega, (fun h => by cases h), fun _ => ⟨n, 0, rfl, Nat.zero_le _, by subst hn; simp, fun k hk => ?_⟩⟩
  have hkv : k < vs.length := by rw [h.len]; exact hk
  refine ⟨[vs[k]], rfl, ?_, vs[k], rfl, (Pd.step (AllRows.at h k hkv hk) (alloc_below w _))⟩
  have hc := CellsAt.newAt w vs 42 hn k vs[k] (List.getElem?_eq_getElem hkv)
  intro j u hu
  have hj : j = 0 := by have := (List.getElem?_eq_some_iff.1 hu).1; simpa using this
  subst hj
  simp only [List.getElem?_cons_zero, Option.some.injEq] at hu
  subst hu
  rw [Nat.mul_one, Nat.add_zero]
  exact hc

/-! ### the chapter's small functions -/
section
variable {w : World}
theorem row_P {l : List Int} {v : Value} (h : (Pd.ints l).says v w) (hn : ∀ n ∈ l, -1000 ≤ n ∧ n ≤ 101) (hlen : l.length ≤ 1000) (R : Ending → World → Prop)
    (hR : ∀ w' v', Below w.heap.size w w' → (Pd.row (l.map rowV)).says v' w' → R (.returned v') w') : Calls Try.prog 51 #[v] w R :=
  row_any 0 w.heap.size l v w h (Nat.le_refl _) hn hlen R (fun w' v' hB hV => hR w' v' hB ((OwnV.sl hV).mono Row1.loc (Nat.zero_le _) (Nat.le_refl _)))
set_option maxRecDepth 100000 in
set_option maxHeartbeats 2000000 in
theorem rel_L {cols : List S} {l : List (List V)} {cv lv : Value} (hc : (Pd.strs cols).says cv w) (hv : (Pd.rows l).says lv w) (hlen : l.length ≤ 1000000000000) (hrl : ∀ x ∈ l, x.length ≤ 4000000000000) {co : List S} {lo : List (List V)} (h1 : okL (ofErr cols l) cols = co) (h2 : okL (ofErr cols l) (relCanon l) = lo) (R : Ending → World → Prop)
    (hR : ∀ w' v, Below w.heap.size w w' → RelVL w.heap.size w' v co lo → R (.returned v) w') : Calls Try.prog 50 #[cv, lv] w R := by
  have HR := Lib.hid hR
  have Hc := Lib.hid hc
  have Hv := Lib.hid hv
  have Hrl := Lib.hid hrl
  have H1 := Lib.hid h1
  have H2 := Lib.hid h2
  obtain ⟨pc, qc, rfl⟩ := Pd.form_strs hc
  obtain ⟨pl, ql, rfl⟩ := Pd.form_rows hv
  clear hR hc hv hrl h1 h2
  go_enter Try.func50, Try.ntmps50
  go_upto_region 1 with fail
  have hal := alloc_below w (.cells #[.slice none 0 0, .slice none 0 0] 34)
  have hb := Blk.new w [.slice none 0 0, .slice none 0 0] 34 rfl
  generalize w.alloc (.cells #[.slice none 0 0, .slice none 0 0] 34) = wa at *
  obtain ⟨b4, eb4⟩ : ∃ b, b = w.heap.size := ⟨_, rfl⟩
  rw [← eb4] at hb ⊢
  have hwb4 : w.heap.size ≤ b4 := by omega
  clear eb4
  have hlb4 := hb.lt
  have Hb := Lib.hid hb
  have Hal := Lib.hid hal
  have hz := hal.size
  clear hb hal
  go_wp2_with fail
  refine OfK_any 0 wa.heap.size 0 wa.heap.size cols l _ _ wa (Pd.step (p := .strs cols) Hc.out Hal.out) (Pd.step (p := .rows l) Hv.out Hal.out) (Nat.le_refl _) (Nat.le_refl _) hlen Hrl.out _ (fun wb cv2 lv2 hs hB hT hO => ?_)
  rw [H1.out] at hT
  rw [H2.out] at hO
  generalize ofErr cols l = er at *
  obtain ⟨p3, q3, rfl⟩ := Own.slice hT
  obtain ⟨p4, q4, e4⟩ := Own.slice hO.own
  rw [hO.len] at e4
  subst e4
  have HT := Lib.hid (OwnT.sl hT)
  have HO := Lib.hid hO.rws
  have HB := Lib.hid hB
  have hzb := hB.size
  clear hT hO hB
  go_upto_region 2 with fail
  have hal := alloc_below wb (.cells #[.slice p3 co.length q3, .slice p4 lo.length q4] 34)
  have hb5 := Blk.new wb [.slice p3 co.length q3, .slice p4 lo.length q4] 34 rfl
  generalize wb.alloc (.cells #[.slice p3 co.length q3, .slice p4 lo.length q4] 34) = wc at *
  have hzc := hal.size
  obtain ⟨b5, eb5⟩ : ∃ b, b = wb.heap.size := ⟨_, rfl⟩
  rw [← eb5] at hb5 ⊢
  clear eb5
  have hB4 := (Hb.out.below HB.out hlb4).below hal (by omega)
  have hBc := (Hal.out.trans (HB.out.mono hz)).trans (hal.mono (by omega))
  have hTc := (HT.out.below Strs.loc hal (Nat.le_refl _))
  have hOc := (HO.out.below rowE_loc hal (Nat.le_refl _))
  obtain ⟨c0, c1⟩ := hb5.cells.c2
  obtain ⟨d0, d1⟩ := hB4.cells.c2
  simp only [Nat.zero_add] at c1 d1
  have f0 := hB4.free 0
  have f1 := hB4.free 1
  have hr := HR.out ((wc.setCell ⟨b4, 0, none⟩ (.slice p3 co.length q3)).setCell ⟨b4, 1, none⟩ (.slice p4 lo.length q4)) (.agg #[.slice p3 co.length q3, .slice p4 lo.length q4])
    ((hBc.setCell (p := ⟨b4, 0, none⟩) hwb4 _).setCell (p := ⟨b4, 1, none⟩) hwb4 _)
    (RelVL.lower (RelVL.set (lo := wa.heap.size) (b := b4) (w := wc) ⟨_, _, _, _, rfl, hTc.mono Strs.loc (Nat.le_refl _) (by omega), hOc.mono rowE_loc (Nat.le_refl _) (by omega)⟩ (by omega)) hz)
  have Hr := Lib.hid hr
  have ht : (loadVar 34 ⟨b4, 0, none⟩).run Try.prog ((wc.setCell ⟨b4, 0, none⟩ (.slice p3 co.length q3)).setCell ⟨b4, 1, none⟩ (.slice p4 lo.length q4)) = .ok (.agg #[.slice p3 co.length q3, .slice p4 lo.length q4]) ((wc.setCell ⟨b4, 0, none⟩ (.slice p3 co.length q3)).setCell ⟨b4, 1, none⟩ (.slice p4 lo.length q4)) :=
    ((hB4.set 0 (.slice p3 co.length q3)).set 1 (.slice p4 lo.length q4)).cells.runVar (P := Try.prog) (fun _ => by kernel_rfl) (fun _ => by kernel_rfl)
  have Ht := Lib.hid ht
  clear ht
  clear hr hBc hTc hOc hB4 hb5 hal
  go_wp2_with fail
  exact ret_cell rfl rfl Ht.out rfl Hr.out
theorem rel_P {cols : List S} {l : List (List V)} {cv lv : Value} (hc : (Pd.strs cols).says cv w) (hv : (Pd.rows l).says lv w) (hlen : l.length ≤ 1000000000000) (hrl : ∀ x ∈ l, x.length ≤ 4000000000000) {co : List S} {lo : List (List V)} (h1 : okL (ofErr cols l) cols = co) (h2 : okL (ofErr cols l) (relCanon l) = lo) (R : Ending → World → Prop)
    (hR : ∀ w' v, Below w.heap.size w w' → (Pd.rel co lo).says v w' → R (.returned v) w') : Calls Try.prog 50 #[cv, lv] w R :=
  rel_L hc hv hlen hrl h1 h2 R (fun w' v hB hV => hR w' v hB hV.rel)
end
end Go.Proofs.Ytpncblagjkbemaa
end

/- The chapter's relations one and two. (Printed by outc.py.) -/
section
set_option linter.unusedVariables false
set_option linter.unusedSimpArgs false
namespace Go.Proofs.Ytpncblagjkbemaa
open Go.RowKit
set_option linter.unusedVariables false
set_option linter.unusedSimpArgs false
attribute [local go_sem ↓] Go.wp_at_zero Go.wp_at_succ

def i1 (n : Int) : V := ⟨1, n, []⟩
def oneR : List (List V) := [[i1 1, i1 2], [i1 1, i1 3], [i1 2, i1 2]]
def twoR : List (List V) := [[i1 2, rowV 100], [i1 4, rowV 101]]
set_option maxRecDepth 100000 in
set_option maxHeartbeats 4000000 in
theorem one_P (w : World) (R : Ending → World → Prop) (hR : ∀ w' v, Below w.heap.size w w' → (Pd.rel [[120], [121]] oneR).says v w' → R (.returned v) w') : Calls Try.prog 48 #[] w R := by
  have HR := Lib.hid hR
  clear hR
  go_enter Try.func48, Try.ntmps48
  go_upto_region 1 with fail
  have hal := alloc_below w (.cells #[.slice none 0 0, .slice none 0 0] 34)
  have hb := Blk.new w [.slice none 0 0, .slice none 0 0] 34 rfl
  generalize w.alloc (.cells #[.slice none 0 0, .slice none 0 0] 34) = w1 at *
  obtain ⟨b0, eb0⟩ : ∃ b, b = w.heap.size := ⟨_, rfl⟩
  rw [← eb0] at hb ⊢
  have hwb : w.heap.size ≤ b0 := by omega
  clear eb0
  have HB := Lib.hid (hal)
  have Hb0 := Lib.hid (hb)
  clear hal hb
  obtain ⟨wl1, ewl1⟩ : ∃ x, x = w1.alloc (.cells #[.string ⟨#[120]⟩, .string ⟨#[121]⟩] 9) := ⟨_, rfl⟩
  have hB : Below w1.heap.size w1 wl1 := by rw [ewl1]; exact alloc_below _ _
  have hsz : w1.heap.size + 1 = wl1.heap.size := by rw [ewl1]; simp
  have hV : (Pd.strs [[120], [121]]).says (.slice (some ⟨w1.heap.size, 0, none⟩) 2 2) wl1 := by rw [ewl1]; exact Pd.strsLit w1 [[120], [121]] (by decide) rfl
  replace HB := Lib.hid (HB.out.trans (hB.mono HB.out.size))
  replace Hb0 := Lib.hid (Hb0.out.below hB Hb0.out.lt)
  have Hwl1 := Lib.hid (hV)
  have Hewl1 := Lib.hid ewl1
  have hswl1 := Lib.hid hsz
  clear hB hV hsz ewl1
  obtain ⟨wl2, ewl2⟩ : ∃ x, x = wl1.alloc (.cells #[.int .i64 1, .int .i64 3] 2) := ⟨_, rfl⟩
  have hB : Below wl1.heap.size wl1 wl2 := by rw [ewl2]; exact alloc_below _ _
  have hsz : w1.heap.size + 1 + 1 = wl2.heap.size := by rw [ewl2]; simp; exact hswl1.out
  have hV : (Pd.ints [1, 3]).says (.slice (some ⟨w1.heap.size + 1, 0, none⟩) 2 2) wl2 := by rw [ewl2]; exact Pd.intsLit wl1 [1, 3] (by decide) hswl1.out
  replace HB := Lib.hid (HB.out.trans (hB.mono HB.out.size))
  replace Hb0 := Lib.hid (Hb0.out.below hB Hb0.out.lt)
  replace Hwl1 := Lib.hid (Pd.step Hwl1.out hB)
  have Hwl2 := Lib.hid (hV)
  have Hewl2 := Lib.hid ewl2
  have hswl2 := Lib.hid hsz
  clear hB hV hsz ewl2
  go_wp2_with fail
  rw [← Hewl1.out, ← Hewl2.out]
  clear Hewl1 Hewl2
  refine row_P Hwl2.out (by decide) (by decide) _ (fun wc3 v hB hV => ?_)
  obtain ⟨p4, q5, rfl⟩ := Pd.form_row hV
  replace HB := Lib.hid (HB.out.trans (hB.mono HB.out.size))
  replace Hb0 := Lib.hid (Hb0.out.below hB Hb0.out.lt)
  replace Hwl1 := Lib.hid (Pd.step Hwl1.out hB)
  replace Hwl2 := Lib.hid (Pd.step Hwl2.out hB)
  have Hr6 := Lib.hid (hV)
  clear hB hV
  clear Hwl2
  obtain ⟨wl7, ewl7⟩ : ∃ x, x = wc3.alloc (.cells #[.int .i64 2, .int .i64 2] 2) := ⟨_, rfl⟩
  have hB : Below wc3.heap.size wc3 wl7 := by rw [ewl7]; exact alloc_below _ _
  have hsz : wc3.heap.size + 1 = wl7.heap.size := by rw [ewl7]; simp
  have hV : (Pd.ints [2, 2]).says (.slice (some ⟨wc3.heap.size, 0, none⟩) 2 2) wl7 := by rw [ewl7]; exact Pd.intsLit wc3 [2, 2] (by decide) rfl
  replace HB := Lib.hid (HB.out.trans (hB.mono HB.out.size))
  replace Hb0 := Lib.hid (Hb0.out.below hB Hb0.out.lt)
  replace Hwl1 := Lib.hid (Pd.step Hwl1.out hB)
  replace Hr6 := Lib.hid (Pd.step Hr6.out hB)
  have Hwl7 := Lib.hid (hV)
  have Hewl7 := Lib.hid ewl7
  have hswl7 := Lib.hid hsz
  clear hB hV hsz ewl7
  go_wp2_with fail
  rw [← Hewl7.out]
  clear Hewl7
  refine row_P Hwl7.out (by decide) (by decide) _ (fun wc8 v hB hV => ?_)
  obtain ⟨p9, q10, rfl⟩ := Pd.form_row hV
  replace HB := Lib.hid (HB.out.trans (hB.mono HB.out.size))
  replace Hb0 := Lib.hid (Hb0.out.below hB Hb0.out.lt)
  replace Hwl1 := Lib.hid (Pd.step Hwl1.out hB)
  replace Hr6 := Lib.hid (Pd.step Hr6.out hB)
  replace Hwl7 := Lib.hid (Pd.step Hwl7.out hB)
  have Hr11 := Lib.hid (hV)
  clear hB hV
  clear Hwl7
  obtain ⟨wl12, ewl12⟩ : ∃ x, x = wc8.alloc (.cells #[.int .i64 1, .int .i64 2] 2) := ⟨_, rfl⟩
  have hB : Below wc8.heap.size wc8 wl12 := by rw [ewl12]; exact alloc_below _ _
  have hsz : wc8.heap.size + 1 = wl12.heap.size := by rw [ewl12]; simp
  have hV : (Pd.ints [1, 2]).says (.slice (some ⟨wc8.heap.size, 0, none⟩) 2 2) wl12 := by rw [ewl12]; exact Pd.intsLit wc8 [1, 2] (by decide) rfl
  replace HB := Lib.hid (HB.out.trans (hB.mono HB.out.size))
  replace Hb0 := Lib.hid (Hb0.out.below hB Hb0.out.lt)
  replace Hwl1 := Lib.hid (Pd.step Hwl1.out hB)
  replace Hr6 := Lib.hid (Pd.step Hr6.out hB)
  replace Hr11 := Lib.hid (Pd.step Hr11.out hB)
  have Hwl12 := Lib.hid (hV)
  have Hewl12 := Lib.hid ewl12
  have hswl12 := Lib.hid hsz
  clear hB hV hsz ewl12
  go_wp2_with fail
  rw [← Hewl12.out]
  clear Hewl12
  refine row_P Hwl12.out (by decide) (by decide) _ (fun wc13 v hB hV => ?_)
  obtain ⟨p14, q15, rfl⟩ := Pd.form_row hV
  replace HB := Lib.hid (HB.out.trans (hB.mono HB.out.size))
  replace Hb0 := Lib.hid (Hb0.out.below hB Hb0.out.lt)
  replace Hwl1 := Lib.hid (Pd.step Hwl1.out hB)
  replace Hr6 := Lib.hid (Pd.step Hr6.out hB)
  replace Hr11 := Lib.hid (Pd.step Hr11.out hB)
  replace Hwl12 := Lib.hid (Pd.step Hwl12.out hB)
  have Hr16 := Lib.hid (hV)
  clear hB hV
  clear Hwl12
  obtain ⟨wl17, ewl17⟩ : ∃ x, x = wc13.alloc (.cells #[.slice p4 2 q5, .slice p9 2 q10, .slice p14 2 q15] 42) := ⟨_, rfl⟩
  have hB : Below wc13.heap.size wc13 wl17 := by rw [ewl17]; exact alloc_below _ _
  have hsz : wc13.heap.size + 1 = wl17.heap.size := by rw [ewl17]; simp
  have hV : (Pd.rows [([1, 3].map rowV), ([2, 2].map rowV), ([1, 2].map rowV)]).says (.slice (some ⟨wc13.heap.size, 0, none⟩) 3 3) wl17 := by rw [ewl17]; exact Pd.rowsLit wc13 [.slice p4 2 q5, .slice p9 2 q10, .slice p14 2 q15] [([1, 3].map rowV), ([2, 2].map rowV), ([1, 2].map rowV)] ⟨Hr6.out, Hr11.out, Hr16.out, trivial⟩ (by decide) rfl
  replace HB := Lib.hid (HB.out.trans (hB.mono HB.out.size))
  replace Hb0 := Lib.hid (Hb0.out.below hB Hb0.out.lt)
  replace Hwl1 := Lib.hid (Pd.step Hwl1.out hB)
  replace Hr6 := Lib.hid (Pd.step Hr6.out hB)
  replace Hr11 := Lib.hid (Pd.step Hr11.out hB)
  replace Hr16 := Lib.hid (Pd.step Hr16.out hB)
  have Hwl17 := Lib.hid (hV)
  have Hewl17 := Lib.hid ewl17
  have hswl17 := Lib.hid hsz
  clear hB hV hsz ewl17
  have hlb := Hb0.out.lt
  go_wp2_with fail
  rw [← Hewl17.out]
  clear Hewl17
  refine rel_L Hwl1.out Hwl17.out (by decide) (by decide) (co := [[120], [121]]) (lo := oneR) (by decide +kernel) (by decide +kernel) _ (fun wc18 v hB hV => ?_)
  clear Hwl1 Hr6 Hr11 Hr16 Hwl17
  obtain ⟨pc, qc, pl, ql, rfl, h1, h2⟩ := hV
  replace HB := Lib.hid (HB.out.trans (hB.mono HB.out.size))
  replace Hb0 := Lib.hid (Hb0.out.below hB Hb0.out.lt)
  have hr := HR.out ((wc18.setCell ⟨b0, 0, none⟩ (.slice pc 2 qc)).setCell ⟨b0, 1, none⟩ (.slice pl 3 ql)) (.agg #[.slice pc 2 qc, .slice pl 3 ql]) ((HB.out.setCell (p := ⟨b0, 0, none⟩) hwb _).setCell (p := ⟨b0, 1, none⟩) hwb _) (RelVL.rel (RelVL.set ⟨_, _, _, _, rfl, h1, h2⟩ hlb))
  have ht : (loadVar 34 ⟨b0, 0, none⟩).run Try.prog ((wc18.setCell ⟨b0, 0, none⟩ (.slice pc 2 qc)).setCell ⟨b0, 1, none⟩ (.slice pl 3 ql)) = .ok (.agg #[.slice pc 2 qc, .slice pl 3 ql]) ((wc18.setCell ⟨b0, 0, none⟩ (.slice pc 2 qc)).setCell ⟨b0, 1, none⟩ (.slice pl 3 ql)) :=
    ((Hb0.out.set 0 (.slice pc 2 qc)).set 1 (.slice pl 3 ql)).cells.runVar (P := Try.prog) (fun _ => by kernel_rfl) (fun _ => by kernel_rfl)
  obtain ⟨e0, e1⟩ := Hb0.out.cells.c2
  simp only [Nat.zero_add] at e1
  have f0 := Hb0.out.free 0
  have f1 := Hb0.out.free 1
  have Hr := Lib.hid hr
  have Ht := Lib.hid ht
  clear hr ht h1 h2 hB
  go_wp2_with fail
  exact ret_cell rfl rfl Ht.out rfl Hr.out
set_option maxRecDepth 100000 in
set_option maxHeartbeats 4000000 in
theorem two_P (w : World) (R : Ending → World → Prop) (hR : ∀ w' v, Below w.heap.size w w' → (Pd.rel [[121], [122]] twoR).says v w' → R (.returned v) w') : Calls Try.prog 49 #[] w R := by
  have HR := Lib.hid hR
  clear hR
  go_enter Try.func49, Try.ntmps49
  go_upto_region 1 with fail
  have hal := alloc_below w (.cells #[.slice none 0 0, .slice none 0 0] 34)
  have hb := Blk.new w [.slice none 0 0, .slice none 0 0] 34 rfl
  generalize w.alloc (.cells #[.slice none 0 0, .slice none 0 0] 34) = w1 at *
  obtain ⟨b0, eb0⟩ : ∃ b, b = w.heap.size := ⟨_, rfl⟩
  rw [← eb0] at hb ⊢
  have hwb : w.heap.size ≤ b0 := by omega
  clear eb0
  have HB := Lib.hid (hal)
  have Hb0 := Lib.hid (hb)
  clear hal hb
  obtain ⟨wl1, ewl1⟩ : ∃ x, x = w1.alloc (.cells #[.string ⟨#[121]⟩, .string ⟨#[122]⟩] 9) := ⟨_, rfl⟩
  have hB : Below w1.heap.size w1 wl1 := by rw [ewl1]; exact alloc_below _ _
  have hsz : w1.heap.size + 1 = wl1.heap.size := by rw [ewl1]; simp
  have hV : (Pd.strs [[121], [122]]).says (.slice (some ⟨w1.heap.size, 0, none⟩) 2 2) wl1 := by rw [ewl1]; exact Pd.strsLit w1 [[121], [122]] (by decide) rfl
  replace HB := Lib.hid (HB.out.trans (hB.mono HB.out.size))
  replace Hb0 := Lib.hid (Hb0.out.below hB Hb0.out.lt)
  have Hwl1 := Lib.hid (hV)
  have Hewl1 := Lib.hid ewl1
  have hswl1 := Lib.hid hsz
  clear hB hV hsz ewl1
  obtain ⟨wl2, ewl2⟩ : ∃ x, x = wl1.alloc (.cells #[.int .i64 4, .int .i64 101] 2) := ⟨_, rfl⟩
  have hB : Below wl1.heap.size wl1 wl2 := by rw [ewl2]; exact alloc_below _ _
  have hsz : w1.heap.size + 1 + 1 = wl2.heap.size := by rw [ewl2]; simp; exact hswl1.out
  have hV : (Pd.ints [4, 101]).says (.slice (some ⟨w1.heap.size + 1, 0, none⟩) 2 2) wl2 := by rw [ewl2]; exact Pd.intsLit wl1 [4, 101] (by decide) hswl1.out
  replace HB := Lib.hid (HB.out.trans (hB.mono HB.out.size))
  replace Hb0 := Lib.hid (Hb0.out.below hB Hb0.out.lt)
  replace Hwl1 := Lib.hid (Pd.step Hwl1.out hB)
  have Hwl2 := Lib.hid (hV)
  have Hewl2 := Lib.hid ewl2
  have hswl2 := Lib.hid hsz
  clear hB hV hsz ewl2
  go_wp2_with fail
  rw [← Hewl1.out, ← Hewl2.out]
  clear Hewl1 Hewl2
  refine row_P Hwl2.out (by decide) (by decide) _ (fun wc3 v hB hV => ?_)
  obtain ⟨p4, q5, rfl⟩ := Pd.form_row hV
  replace HB := Lib.hid (HB.out.trans (hB.mono HB.out.size))
  replace Hb0 := Lib.hid (Hb0.out.below hB Hb0.out.lt)
  replace Hwl1 := Lib.hid (Pd.step Hwl1.out hB)
  replace Hwl2 := Lib.hid (Pd.step Hwl2.out hB)
  have Hr6 := Lib.hid (hV)
  clear hB hV
  clear Hwl2
  obtain ⟨wl7, ewl7⟩ : ∃ x, x = wc3.alloc (.cells #[.int .i64 2, .int .i64 100] 2) := ⟨_, rfl⟩
  have hB : Below wc3.heap.size wc3 wl7 := by rw [ewl7]; exact alloc_below _ _
  have hsz : wc3.heap.size + 1 = wl7.heap.size := by rw [ewl7]; simp
  have hV : (Pd.ints [2, 100]).says (.slice (some ⟨wc3.heap.size, 0, none⟩) 2 2) wl7 := by rw [ewl7]; exact Pd.intsLit wc3 [2, 100] (by decide) rfl
  replace HB := Lib.hid (HB.out.trans (hB.mono HB.out.size))
  replace Hb0 := Lib.hid (Hb0.out.below hB Hb0.out.lt)
  replace Hwl1 := Lib.hid (Pd.step Hwl1.out hB)
  replace Hr6 := Lib.hid (Pd.step Hr6.out hB)
  have Hwl7 := Lib.hid (hV)
  have Hewl7 := Lib.hid ewl7
  have hswl7 := Lib.hid hsz
  clear hB hV hsz ewl7
  go_wp2_with fail
  rw [← Hewl7.out]
  clear Hewl7
  refine row_P Hwl7.out (by decide) (by decide) _ (fun wc8 v hB hV => ?_)
  obtain ⟨p9, q10, rfl⟩ := Pd.form_row hV
  replace HB := Lib.hid (HB.out.trans (hB.mono HB.out.size))
  replace Hb0 := Lib.hid (Hb0.out.below hB Hb0.out.lt)
  replace Hwl1 := Lib.hid (Pd.step Hwl1.out hB)
  replace Hr6 := Lib.hid (Pd.step Hr6.out hB)
  replace Hwl7 := Lib.hid (Pd.step Hwl7.out hB)
  have Hr11 := Lib.hid (hV)
  clear hB hV
  clear Hwl7
  obtain ⟨wl12, ewl12⟩ : ∃ x, x = wc8.alloc (.cells #[.slice p4 2 q5, .slice p9 2 q10] 42) := ⟨_, rfl⟩
  have hB : Below wc8.heap.size wc8 wl12 := by rw [ewl12]; exact alloc_below _ _
  have hsz : wc8.heap.size + 1 = wl12.heap.size := by rw [ewl12]; simp
  have hV : (Pd.rows [([4, 101].map rowV), ([2, 100].map rowV)]).says (.slice (some ⟨wc8.heap.size, 0, none⟩) 2 2) wl12 := by rw [ewl12]; exact Pd.rowsLit wc8 [.slice p4 2 q5, .slice p9 2 q10] [([4, 101].map rowV), ([2, 100].map rowV)] ⟨Hr6.out, Hr11.out, trivial⟩ (by decide) rfl
  replace HB := Lib.hid (HB.out.trans (hB.mono HB.out.size))
  replace Hb0 := Lib.hid (Hb0.out.below hB Hb0.out.lt)
  replace Hwl1 := Lib.hid (Pd.step Hwl1.out hB)
  replace Hr6 := Lib.hid (Pd.step Hr6.out hB)
  replace Hr11 := Lib.hid (Pd.step Hr11.out hB)
  have Hwl12 := Lib.hid (hV)
  have Hewl12 := Lib.hid ewl12
  have hswl12 := Lib.hid hsz
  clear hB hV hsz ewl12
  have hlb := Hb0.out.lt
  go_wp2_with fail
  rw [← Hewl12.out]
  clear Hewl12
  refine rel_L Hwl1.out Hwl12.out (by decide) (by decide) (co := [[121], [122]]) (lo := twoR) (by decide +kernel) (by decide +kernel) _ (fun wc13 v hB hV => ?_)
  clear Hwl1 Hr6 Hr11 Hwl12
  obtain ⟨pc, qc, pl, ql, rfl, h1, h2⟩ := hV
  replace HB := Lib.hid (HB.out.trans (hB.mono HB.out.size))
  replace Hb0 := Lib.hid (Hb0.out.below hB Hb0.out.lt)
  have hr := HR.out ((wc13.setCell ⟨b0, 0, none⟩ (.slice pc 2 qc)).setCell ⟨b0, 1, none⟩ (.slice pl 2 ql)) (.agg #[.slice pc 2 qc, .slice pl 2 ql]) ((HB.out.setCell (p := ⟨b0, 0, none⟩) hwb _).setCell (p := ⟨b0, 1, none⟩) hwb _) (RelVL.rel (RelVL.set ⟨_, _, _, _, rfl, h1, h2⟩ hlb))
  have ht : (loadVar 34 ⟨b0, 0, none⟩).run Try.prog ((wc13.setCell ⟨b0, 0, none⟩ (.slice pc 2 qc)).setCell ⟨b0, 1, none⟩ (.slice pl 2 ql)) = .ok (.agg #[.slice pc 2 qc, .slice pl 2 ql]) ((wc13.setCell ⟨b0, 0, none⟩ (.slice pc 2 qc)).setCell ⟨b0, 1, none⟩ (.slice pl 2 ql)) :=
    ((Hb0.out.set 0 (.slice pc 2 qc)).set 1 (.slice pl 2 ql)).cells.runVar (P := Try.prog) (fun _ => by kernel_rfl) (fun _ => by kernel_rfl)
  obtain ⟨e0, e1⟩ := Hb0.out.cells.c2
  simp only [Nat.zero_add] at e1
  have f0 := Hb0.out.free 0
  have f1 := Hb0.out.free 1
  have Hr := Lib.hid hr
  have Ht := Lib.hid ht
  clear hr ht h1 h2 hB
  go_wp2_with fail
  exact ret_cell rfl rfl Ht.out rfl Hr.out
end Go.Proofs.Ytpncblagjkbemaa
end

/- The chapter's first example. (Printed by outd.py.) -/
section
set_option linter.unusedVariables false
set_option linter.unusedSimpArgs false
namespace Go.Proofs.Ytpncblagjkbemaa
open Go.RowKit
set_option linter.unusedVariables false
set_option linter.unusedSimpArgs false
attribute [local go_sem ↓] Go.wp_at_zero Go.wp_at_succ

/-- A relation that is written out, as two slices. -/
theorem relH {w : World} {pc pl : Option Addr} {nc nl qc ql : Nat} {cols : List S} {l : List (List V)} (h : (Pd.rel cols l).says (.agg #[.slice pc nc qc, .slice pl nl ql]) w) : RelH w pc qc pl ql cols l := by
  obtain ⟨p1, q1, p2, q2, e, h⟩ := h
  injection e with e
  injection e with e
  injection e with e1 e2
  injection e1 with e1 e3 e4
  injection e2 with e2 e5
  injection e2 with e6 e7 e8
  subst e1 e4 e6 e8
  exact h
set_option maxRecDepth 100000 in
set_option maxHeartbeats 4000000 in
theorem alive_P (w : World) (R : Ending → World → Prop) (hR : ∀ w', Below w.heap.size w w' → R (.returned (.bool true)) w') : Calls Try.prog 47 #[] w R := by
  have HR := Lib.hid hR
  clear hR
  go_enter Try.func47, Try.ntmps47
  have hB0 : Below w.heap.size w w := Below.refl _ _
  have HB := Lib.hid (hB0)
  clear hB0
  go_wp2_with fail
  refine one_P w _ (fun wc1 v hB hV => ?_)
  obtain ⟨p2, q3, p4, q5, rfl, hV⟩ := hV
  replace HB := Lib.hid (HB.out.trans (hB.mono HB.out.size))
  have Hrel6 := Lib.hid (show (Pd.rel _ _).says _ _ from ⟨_, _, _, _, rfl, hV⟩)
  clear hB hV
  go_wp2_with fail
  refine two_P wc1 _ (fun wc7 v hB hV => ?_)
  obtain ⟨p8, q9, p10, q11, rfl, hV⟩ := hV
  replace HB := Lib.hid (HB.out.trans (hB.mono HB.out.size))
  replace Hrel6 := Lib.hid (Pd.step Hrel6.out hB)
  have Hrel12 := Lib.hid (show (Pd.rel _ _).says _ _ from ⟨_, _, _, _, rfl, hV⟩)
  clear hB hV
  go_wp2_with fail
  refine Join_K (relH Hrel6.out) (relH Hrel12.out) (by decide) (e := 0) (co := [[120], [121], [122]]) (lo := [[i1 1, i1 2, rowV 100], [i1 2, i1 2, rowV 100]]) (by decide +kernel) (by decide +kernel) (by decide +kernel) _ (fun wc13 v hB hV => ?_)
  obtain ⟨p14, q15, p16, q17, rfl, hV⟩ := hV
  replace HB := Lib.hid (HB.out.trans (hB.mono HB.out.size))
  replace Hrel6 := Lib.hid (Pd.step Hrel6.out hB)
  replace Hrel12 := Lib.hid (Pd.step Hrel12.out hB)
  have Hrel18 := Lib.hid (show (Pd.rel _ _).says _ _ from ⟨_, _, _, _, rfl, hV⟩)
  clear hB hV
  go_upto_region 2 with fail
  have hb := RelH.box (n := wc13.heap.size) (relH Hrel18.out) rfl
  have hB := alloc_below wc13 (.cells #[.slice p14 3 q15, .slice p16 2 q17] 34)
  simp only [List.length_cons, List.length_nil, Nat.zero_add, Nat.reduceAdd] at hb
  generalize wc13.alloc (.cells #[.slice p14 3 q15, .slice p16 2 q17] 34) = w19 at *
  obtain ⟨b1, eb1⟩ : ∃ b, b = wc13.heap.size := ⟨_, rfl⟩
  rw [← eb1] at hb ⊢
  clear eb1
  replace HB := Lib.hid (HB.out.trans (hB.mono HB.out.size))
  replace Hrel6 := Lib.hid (Pd.step Hrel6.out hB)
  replace Hrel12 := Lib.hid (Pd.step Hrel12.out hB)
  replace Hrel18 := Lib.hid (Pd.step Hrel18.out hB)
  have Hv := Lib.hid (hb)
  clear hB hb
  clear Hrel6 Hrel12 Hrel18
  refine wp_region_steps w19 (Pds [.const (.int .i64 0), .const (.bool true), .const (.bool true), .rel [[120], [121], [122]] [[i1 1, i1 2, rowV 100], [i1 2, i1 2, rowV 100]], .strs [[120], [121], [122]], .ints [1, 2, 100], .row ([1, 2, 100].map rowV), .ints [2, 2, 100], .row ([2, 2, 100].map rowV), .rows [([1, 2, 100].map rowV), ([2, 2, 100].map rowV)], .rel [[120], [121], [122]] [([1, 2, 100].map rowV), ([2, 2, 100].map rowV)], .const (.bool true), .const (.bool true), .const (.bool true)]) 14 [(0, 9), (1, 10), (2, 11), (3, 12), (4, 13), (5, 14), (6, 15), (7, 16), (8, 17), (9, 18), (10, 19), (11, 20), (12, 21), (13, 0)] (by kernel_rfl) (by kernel_rfl) (by kernel_rfl) (by kernel_rfl) (by kernel_rfl) Pds.step ⟨?_, ?_, ?_, ?_, ?_, ?_, ?_, ?_, ?_, ?_, ?_, ?_, ?_, ?_, trivial⟩ (fun vals wz hB hV => ?_)
  · refine StepAt.mk rfl [] (by kernel_rfl) (by kernel_rfl) (fun vals w5 hB hD => ?_)
    clear hD
    simp only [List.foldl_nil]
    try simp only [Act.put, List.getElem_toArray, List.getElem_cons_succ, List.getElem_cons_zero, List.setIfInBounds_toArray, List.set_cons_zero, List.set_cons_succ]
    exact OpStep.val (v := .int .i64 0) (w' := w5) (by go_simp) (by kernel_rfl) (Below.refl _ _) rfl
  · refine StepAt.mk rfl [(0, 9)] (by kernel_rfl) (by kernel_rfl) (fun vals w5 hB hD => ?_)
    have d0 := hD (0, 9) (by simp)
    clear hD
    simp only [List.foldl_cons] at *
    simp only [List.foldl_nil]
    generalize vals 0 = x0 at *
    change x0 = .int .i64 0 at d0
    subst d0
    try simp only [Act.put, List.getElem_toArray, List.getElem_cons_succ, List.getElem_cons_zero, List.setIfInBounds_toArray, List.set_cons_zero, List.set_cons_succ]
    exact OpStep.val (v := .bool true) (w' := w5) (by go_simp) (by kernel_rfl) (Below.refl _ _) rfl
  · refine StepAt.mk rfl [(1, 10)] (by kernel_rfl) (by kernel_rfl) (fun vals w5 hB hD => ?_)
    have d1 := hD (1, 10) (by simp)
    clear hD
    simp only [List.foldl_cons] at *
    simp only [List.foldl_nil]
    generalize vals 1 = x1 at *
    change x1 = .bool true at d1
    subst d1
    try simp only [Act.put, List.getElem_toArray, List.getElem_cons_succ, List.getElem_cons_zero, List.setIfInBounds_toArray, List.set_cons_zero, List.set_cons_succ]
    exact OpStep.val (v := .bool true) (w' := w5) (by go_simp) (by kernel_rfl) (Below.refl _ _) rfl
  · refine StepAt.mk rfl [(2, 11)] (by kernel_rfl) (by kernel_rfl) (fun vals w5 hB hD => ?_)
    have d2 := hD (2, 11) (by simp)
    clear hD
    simp only [List.foldl_cons] at *
    simp only [List.foldl_nil]
    generalize vals 2 = x2 at *
    change x2 = .bool true at d2
    subst d2
    try simp only [Act.put, List.getElem_toArray, List.getElem_cons_succ, List.getElem_cons_zero, List.setIfInBounds_toArray, List.set_cons_zero, List.set_cons_succ]
    obtain ⟨c0, c1⟩ := (Hv.out.blk.below hB Hv.out.blk.lt).cells.c2
    simp only [Nat.zero_add] at c1
    exact OpStep.val (v := .agg #[.slice p14 3 q15, .slice p16 2 q17]) (w' := w5) (by go_simp) (by kernel_rfl) (Below.refl _ _) (show (Pd.rel _ _).says _ _ from ⟨_, _, _, _, rfl, Hv.out.rel.below hB⟩)
  · refine StepAt.mk rfl [(2, 11)] (by kernel_rfl) (by kernel_rfl) (fun vals w5 hB hD => ?_)
    have d2 := hD (2, 11) (by simp)
    clear hD
    simp only [List.foldl_cons] at *
    simp only [List.foldl_nil]
    generalize vals 2 = x2 at *
    change x2 = .bool true at d2
    subst d2
    try simp only [Act.put, List.getElem_toArray, List.getElem_cons_succ, List.getElem_cons_zero, List.setIfInBounds_toArray, List.set_cons_zero, List.set_cons_succ]
    exact OpStep.val (v := .slice (some ⟨w5.heap.size, 0, none⟩) 3 3) (w' := w5.alloc (.cells #[.string ⟨#[120]⟩, .string ⟨#[121]⟩, .string ⟨#[122]⟩] 9)) (by go_simp) (by kernel_rfl) (alloc_below _ _) (Pd.strsLit w5 [[120], [121], [122]] (by decide) rfl)
  · refine StepAt.mk rfl [(2, 11)] (by kernel_rfl) (by kernel_rfl) (fun vals w5 hB hD => ?_)
    have d2 := hD (2, 11) (by simp)
    clear hD
    simp only [List.foldl_cons] at *
    simp only [List.foldl_nil]
    generalize vals 2 = x2 at *
    change x2 = .bool true at d2
    subst d2
    try simp only [Act.put, List.getElem_toArray, List.getElem_cons_succ, List.getElem_cons_zero, List.setIfInBounds_toArray, List.set_cons_zero, List.set_cons_succ]
    exact OpStep.val (v := .slice (some ⟨w5.heap.size, 0, none⟩) 3 3) (w' := w5.alloc (.cells #[.int .i64 1, .int .i64 2, .int .i64 100] 2)) (by go_simp) (by kernel_rfl) (alloc_below _ _) (Pd.intsLit w5 [1, 2, 100] (by decide) rfl)
  · refine StepAt.mk rfl [(2, 11), (5, 14)] (by kernel_rfl) (by kernel_rfl) (fun vals w5 hB hD => ?_)
    have d2 := hD (2, 11) (by simp)
    have d5 := hD (5, 14) (by simp)
    clear hD
    simp only [List.foldl_cons] at *
    simp only [List.foldl_nil]
    generalize vals 2 = x2 at *
    change x2 = .bool true at d2
    subst d2
    generalize vals 5 = x5 at *
    change (Pd.ints [1, 2, 100]).says x5 w5 at d5
    obtain ⟨p5, q5, rfl⟩ := Pd.form_ints d5
    try simp only [Act.put, List.getElem_toArray, List.getElem_cons_succ, List.getElem_cons_zero, List.setIfInBounds_toArray, List.set_cons_zero, List.set_cons_succ]
    refine OpStep.call (f := 51) (args := #[.slice p5 3 q5]) (by kernel_rfl) (by kernel_rfl) ?_
    exact row_P d5 (by decide) (by decide) _ (fun w6 v hB6 hV => ⟨v, rfl, hB6, hV⟩)
  · refine StepAt.mk rfl [(2, 11)] (by kernel_rfl) (by kernel_rfl) (fun vals w5 hB hD => ?_)
    have d2 := hD (2, 11) (by simp)
    clear hD
    simp only [List.foldl_cons] at *
    simp only [List.foldl_nil]
    generalize vals 2 = x2 at *
    change x2 = .bool true at d2
    subst d2
    try simp only [Act.put, List.getElem_toArray, List.getElem_cons_succ, List.getElem_cons_zero, List.setIfInBounds_toArray, List.set_cons_zero, List.set_cons_succ]
    exact OpStep.val (v := .slice (some ⟨w5.heap.size, 0, none⟩) 3 3) (w' := w5.alloc (.cells #[.int .i64 2, .int .i64 2, .int .i64 100] 2)) (by go_simp) (by kernel_rfl) (alloc_below _ _) (Pd.intsLit w5 [2, 2, 100] (by decide) rfl)
  · refine StepAt.mk rfl [(2, 11), (7, 16)] (by kernel_rfl) (by kernel_rfl) (fun vals w5 hB hD => ?_)
    have d2 := hD (2, 11) (by simp)
    have d7 := hD (7, 16) (by simp)
    clear hD
    simp only [List.foldl_cons] at *
    simp only [List.foldl_nil]
    generalize vals 2 = x2 at *
    change x2 = .bool true at d2
    subst d2
    generalize vals 7 = x7 at *
    change (Pd.ints [2, 2, 100]).says x7 w5 at d7
    obtain ⟨p7, q7, rfl⟩ := Pd.form_ints d7
    try simp only [Act.put, List.getElem_toArray, List.getElem_cons_succ, List.getElem_cons_zero, List.setIfInBounds_toArray, List.set_cons_zero, List.set_cons_succ]
    refine OpStep.call (f := 51) (args := #[.slice p7 3 q7]) (by kernel_rfl) (by kernel_rfl) ?_
    exact row_P d7 (by decide) (by decide) _ (fun w6 v hB6 hV => ⟨v, rfl, hB6, hV⟩)
  · refine StepAt.mk rfl [(2, 11), (6, 15), (8, 17)] (by kernel_rfl) (by kernel_rfl) (fun vals w5 hB hD => ?_)
    have d2 := hD (2, 11) (by simp)
    have d6 := hD (6, 15) (by simp)
    have d8 := hD (8, 17) (by simp)
    clear hD
    simp only [List.foldl_cons] at *
    simp only [List.foldl_nil]
    generalize vals 2 = x2 at *
    change x2 = .bool true at d2
    subst d2
    generalize vals 6 = x6 at *
    change (Pd.row ([1, 2, 100].map rowV)).says x6 w5 at d6
    obtain ⟨p6, q6, rfl⟩ := Pd.form_row d6
    generalize vals 8 = x8 at *
    change (Pd.row ([2, 2, 100].map rowV)).says x8 w5 at d8
    obtain ⟨p8, q8, rfl⟩ := Pd.form_row d8
    try simp only [Act.put, List.getElem_toArray, List.getElem_cons_succ, List.getElem_cons_zero, List.setIfInBounds_toArray, List.set_cons_zero, List.set_cons_succ]
    exact OpStep.val (v := .slice (some ⟨w5.heap.size, 0, none⟩) 2 2) (w' := w5.alloc (.cells #[.slice p6 3 q6, .slice p8 3 q8] 42)) (by go_simp) (by kernel_rfl) (alloc_below _ _) (Pd.rowsLit w5 [.slice p6 3 q6, .slice p8 3 q8] [([1, 2, 100].map rowV), ([2, 2, 100].map rowV)] ⟨d6, d8, trivial⟩ (by decide) rfl)
  · refine StepAt.mk rfl [(2, 11), (4, 13), (9, 18)] (by kernel_rfl) (by kernel_rfl) (fun vals w5 hB hD => ?_)
    have d2 := hD (2, 11) (by simp)
    have d4 := hD (4, 13) (by simp)
    have d9 := hD (9, 18) (by simp)
    clear hD
    simp only [List.foldl_cons] at *
    simp only [List.foldl_nil]
    generalize vals 2 = x2 at *
    change x2 = .bool true at d2
    subst d2
    generalize vals 4 = x4 at *
    change (Pd.strs [[120], [121], [122]]).says x4 w5 at d4
    obtain ⟨p4, q4, rfl⟩ := Pd.form_strs d4
    generalize vals 9 = x9 at *
    change (Pd.rows [([1, 2, 100].map rowV), ([2, 2, 100].map rowV)]).says x9 w5 at d9
    obtain ⟨p9, q9, rfl⟩ := Pd.form_rows d9
    try simp only [Act.put, List.getElem_toArray, List.getElem_cons_succ, List.getElem_cons_zero, List.setIfInBounds_toArray, List.set_cons_zero, List.set_cons_succ]
    exact OpStep.val (v := .agg #[.slice p4 3 q4, .slice p9 2 q9]) (w' := w5) (by go_simp) (by kernel_rfl) (Below.refl _ _) (show (Pd.rel _ _).says _ _ from ⟨_, _, _, _, rfl, ⟨d4, d9⟩⟩)
  · refine StepAt.mk rfl [(2, 11), (3, 12), (10, 19)] (by kernel_rfl) (by kernel_rfl) (fun vals w5 hB hD => ?_)
    have d2 := hD (2, 11) (by simp)
    have d3 := hD (3, 12) (by simp)
    have d10 := hD (10, 19) (by simp)
    clear hD
    simp only [List.foldl_cons] at *
    simp only [List.foldl_nil]
    generalize vals 2 = x2 at *
    change x2 = .bool true at d2
    subst d2
    generalize vals 3 = x3 at *
    change (Pd.rel [[120], [121], [122]] [[i1 1, i1 2, rowV 100], [i1 2, i1 2, rowV 100]]).says x3 w5 at d3
    obtain ⟨pa3, qa3, pb3, qb3, rfl, d3⟩ := d3
    generalize vals 10 = x10 at *
    change (Pd.rel [[120], [121], [122]] [([1, 2, 100].map rowV), ([2, 2, 100].map rowV)]).says x10 w5 at d10
    obtain ⟨pa10, qa10, pb10, qb10, rfl, d10⟩ := d10
    try simp only [Act.put, List.getElem_toArray, List.getElem_cons_succ, List.getElem_cons_zero, List.setIfInBounds_toArray, List.set_cons_zero, List.set_cons_succ]
    refine OpStep.call (f := 29) (args := #[.agg #[.slice pa3 ([[120], [121], [122]] : List S).length qa3, .slice pb3 ([[i1 1, i1 2, rowV 100], [i1 2, i1 2, rowV 100]] : List (List V)).length qb3], .agg #[.slice pa10 ([[120], [121], [122]] : List S).length qa10, .slice pb10 ([([1, 2, 100].map rowV), ([2, 2, 100].map rowV)] : List (List V)).length qb10]]) (by kernel_rfl) (by kernel_rfl) ?_
    exact Same_K d3 d10 (by decide +kernel) (by decide +kernel) (by decide +kernel) _ (fun w6 hB6 => ⟨_, rfl, hB6, rfl⟩)
  · refine StepAt.mk rfl [(2, 11), (11, 20)] (by kernel_rfl) (by kernel_rfl) (fun vals w5 hB hD => ?_)
    have d2 := hD (2, 11) (by simp)
    have d11 := hD (11, 20) (by simp)
    clear hD
    simp only [List.foldl_cons] at *
    simp only [List.foldl_nil]
    generalize vals 2 = x2 at *
    change x2 = .bool true at d2
    subst d2
    generalize vals 11 = x11 at *
    change x11 = .bool true at d11
    subst d11
    try simp only [Act.put, List.getElem_toArray, List.getElem_cons_succ, List.getElem_cons_zero, List.setIfInBounds_toArray, List.set_cons_zero, List.set_cons_succ]
    exact OpStep.val (v := .bool true) (w' := w5) (by go_simp) (by kernel_rfl) (Below.refl _ _) rfl
  · refine StepAt.mk rfl [(12, 21)] (by kernel_rfl) (by kernel_rfl) (fun vals w5 hB hD => ?_)
    have d12 := hD (12, 21) (by simp)
    clear hD
    simp only [List.foldl_cons] at *
    simp only [List.foldl_nil]
    generalize vals 12 = x12 at *
    change x12 = .bool true at d12
    subst d12
    try simp only [Act.put, List.getElem_toArray, List.getElem_cons_succ, List.getElem_cons_zero, List.setIfInBounds_toArray, List.set_cons_zero, List.set_cons_succ]
    exact OpStep.val (v := .bool true) (w' := w5) (by go_simp) (by kernel_rfl) (Below.refl _ _) rfl
  simp only [List.foldl_cons, List.foldl_nil]
  try simp only [Act.put, List.getElem_toArray, List.getElem_cons_succ, List.getElem_cons_zero, List.setIfInBounds_toArray, List.set_cons_zero, List.set_cons_succ]
  have z : vals 13 = .bool true := hV 13 (by decide)
  rw [z]
  have hr := HR.out wz (HB.out.trans (hB.mono HB.out.size))
  clear z hV hB
  go_wp2_with fail
  first | exact hr | exact fin hr rfl
end Go.Proofs.Ytpncblagjkbemaa
end

/- What the functions that the chapter's examples call make of relations. -/
section
set_option linter.unusedVariables false
set_option linter.unusedSimpArgs false
namespace Go.Proofs.Ytpncblagjkbemaa
open Go.RowKit
set_option linter.unusedVariables false
set_option linter.unusedSimpArgs false
attribute [local go_sem ↓] Go.wp_at_zero Go.wp_at_succ

section
variable {w : World} {pa qa : Option Addr} {na ma : Nat} {ac : List S} {la : List (List V)}
theorem Rename_K {cols : List S} {cv : Value} (ha : RelH w pa na qa ma ac la) (hcols : Strs 0 w.heap.size w cv cols) (hll : la.length ≤ 1000000000000) {e : Int} {co : List S} {lo : List (List V)} (he : renErr ac la cols = e) (hc : okL e cols = co) (hl : okL e (relCanon la) = lo) (R : Ending → World → Prop)
    (hR : ∀ w' v, Below w.heap.size w w' → RelV w' v co lo → R (.returned (.tuple #[v, .int .i64 e])) w') :
    Calls Try.prog 33 #[.agg #[.slice pa ac.length na, .slice qa la.length ma], cv] w R := by
  subst he hc hl
  exact Rename_any 0 w.heap.size 0 w.heap.size 0 w.heap.size ac _ _ la _ cols cv w ha.strs (Nat.le_refl _) ha.rws (Nat.le_refl _) hcols (Nat.le_refl _) hll R (fun w' cv lv hs hB hT hO => hR w' _ hB (.of hT hO))
theorem Has_K {x : List V} {vx : Value} (ha : RelH w pa na qa ma ac la) (hx : (Pd.row x).says vx w) {q : Bool} (hq : hasB ac la x = q) (R : Ending → World → Prop) (hR : ∀ w', Below w.heap.size w w' → R (.returned (.bool q)) w') :
    Calls Try.prog 39 #[.agg #[.slice pa ac.length na, .slice qa la.length ma], vx] w R := by
  subst hq
  exact Has_any 0 w.heap.size 0 w.heap.size 0 w.heap.size ac _ _ la _ x vx w ha.strs (Nat.le_refl _) ha.rws (Nat.le_refl _) hx (Nat.le_refl _) R hR
theorem Compare_K {x y : List V} {vx vy : Value} (hx : (Pd.row x).says vx w) (hy : (Pd.row y).says vy w) {q : Int} (hq : cmpR x y = q) (R : Ending → World → Prop) (hR : ∀ w', Below w.heap.size w w' → R (.returned (.int .i64 q)) w') :
    Calls Try.prog 24 #[vx, vy] w R := by
  subst hq
  exact rowsCompareB_any 0 w.heap.size 0 w.heap.size x y vx vy w hx hy (Nat.le_refl _) (Nat.le_refl _) R hR
end
/-- 33 empty texts. -/
theorem mk33 (w : World) : ∃ w', (Instr.makeSlice 31 (.int .i64 33) (.int .i64 33)).run Try.prog w = .ok (.slice (some ⟨w.heap.size, 0, none⟩) 33 33) w' ∧ Below w.heap.size w w' ∧ (Pd.strs (List.replicate 33 [])).says (.slice (some ⟨w.heap.size, 0, none⟩) 33 33) w' := by
  obtain ⟨i0, hi, hz0, hz1, hz2⟩ := info_parts infoT
  have hr := run_makeSlice (P := Try.prog) w 31 9 i0 (.string ⟨#[]⟩) Try.underlying31 hi hz0 .i64 .i64 33 33 (by omega) (Int.le_refl _) (by rw [hz1]; decide) (by rw [hz2]; decide) (by omega)
  rw [hz1] at hr
  have e : madeCells (Value.string ⟨#[]⟩).cells ((33 : Int).toNat * 1) = ((List.replicate 33 ([] : S)).flatMap strE).toArray := by kernel_rfl
  rw [e] at hr
  exact ⟨_, hr, alloc_below _ _, Pd.strsLit w (List.replicate 33 []) (by decide) rfl⟩
theorem run_eql_nil_nil (w : World) : (binOp .eql 61 .nilFunc .nilFunc).run Try.prog w = .ok (.bool true) w := by
  have hh : ∀ d, (Op.equalIn (d + 1) 61 .nilFunc .nilFunc).run Try.prog w = .ok true w := fun d => by simp [Op.equalIn, run_underlying Try.underlying61]
  simp only [binOp]
  simp [Op.equal, Op.maxDepth, hh 9999]
set_option maxRecDepth 100000 in
set_option maxHeartbeats 2000000 in
theorem SelectNil_K {w : World} {pa qa : Option Addr} {na ma : Nat} {ac : List S} {la : List (List V)} (ha : RelH w pa na qa ma ac la) (R : Ending → World → Prop)
    (hR : ∀ w' v, Below w.heap.size w w' → RelV w' v [] [] → R (.returned (.tuple #[v, .int .i64 2])) w') :
    Calls Try.prog 35 #[.agg #[.slice pa ac.length na, .slice qa la.length ma], .nilFunc] w R := by
  have HR := Lib.hid hR
  have Ha := Lib.hid ha
  clear hR ha
  obtain ⟨wa, ewa⟩ : ∃ x, x = w.alloc (.cells #[.slice pa ac.length na, .slice qa la.length ma] 34) := ⟨_, rfl⟩
  obtain ⟨wb, ewb⟩ : ∃ x, x = wa.alloc (.cells #[.nilFunc] 61) := ⟨_, rfl⟩
  obtain ⟨w2, ew2⟩ : ∃ x, x = wb.alloc (.cells #[.slice none 0 0, .slice none 0 0] 34) := ⟨_, rfl⟩
  have sa : wa.heap.size = w.heap.size + 1 := by rw [ewa]; simp
  have sb : wb.heap.size = w.heap.size + 1 + 1 := by rw [ewb]; simp [sa]
  have hBa : Below w.heap.size w wa := by rw [ewa]; exact alloc_below _ _
  have hBb : Below wa.heap.size wa wb := by rw [ewb]; exact alloc_below _ _
  have hBc : Below wb.heap.size wb w2 := by rw [ew2]; exact alloc_below _ _
  have hb1 : Blk wa w.heap.size [.slice pa ac.length na, .slice qa la.length ma] 34 := by rw [ewa]; exact Blk.new w [.slice pa ac.length na, .slice qa la.length ma] _ rfl
  have hb2 : Blk wb (w.heap.size + 1) [.nilFunc] 61 := by rw [ewb]; exact Blk.new wa [.nilFunc] _ sa.symm
  have hb3 : Blk w2 (w.heap.size + 1 + 1) [.slice none 0 0, .slice none 0 0] 34 := by rw [ew2]; exact Blk.new wb [.slice none 0 0, .slice none 0 0] _ sb.symm
  have hb1 := (hb1.below hBb hb1.lt).below hBc (by omega)
  have hb2 := hb2.below hBc hb2.lt
  have hB := hBa.trans ((hBb.mono hBa.size).trans (hBc.mono (by omega)))
  go_enter Try.func35, Try.ntmps35
  go_upto_region 1 with fail
  rw [← ewa, ← ewb, ← ew2]
  clear ewa ewb ew2 hBa hBb hBc sa sb
  have HB := Lib.hid hB
  have Hb1 := Lib.hid hb1
  have Hb2 := Lib.hid hb2
  have Hb3 := Lib.hid hb3
  have hz2 := hB.size
  have hl3 := hb3.lt
  obtain ⟨c0, c1⟩ := hb1.cells.c2
  simp only [Nat.zero_add] at c1
  clear hb1 hb2 hb3 hB
  go_wp2_with fail
  refine May_any 0 w.heap.size 0 w.heap.size ac _ _ la _ w2 (Sl.below Ha.out.strs Strs.loc HB.out (Nat.le_refl _)) (by omega) (Sl.below Ha.out.rws rowE_loc HB.out (Nat.le_refl _)) (by omega) _ (fun w5 hB5 => ?_)
  have hz5 := hB5.size
  have HB5 := Lib.hid (HB.out.trans (hB5.mono (by omega)))
  have Hbf := Lib.hid (Hb2.out.below hB5 (by omega))
  have Hbr := Lib.hid (Hb3.out.below hB5 hl3)
  clear hB5 c0 c1
  obtain ⟨e0, e1⟩ := Hbr.out.cells.c2
  have f0 := Hbr.out.free 0
  have f1 := Hbr.out.free 1
  have cf := Hbf.out.cells.c1
  have hfn := run_eql_nil_nil
  simp only [Nat.zero_add] at e1
  obtain ⟨t1, t2, t3, t4⟩ := relTail (pc := none) (pr := none) (qc := 0) (qr := 0) Hbr.out (show w.heap.size ≤ w.heap.size + 1 + 1 by omega) HB5.out (Own.nil _ _ _ _ _) (OwnR.nil _ _)
  have hr := HR.out _ _ t1 (.of t2 t3)
  have Hr := Lib.hid hr
  have Ht := Lib.hid t4
  clear hr t1 t2 t3 t4
  cases hm : mayRel ac la
  · clear hm
    go_wp2_with fail
    exact ret_cell_tmp rfl rfl Ht.out rfl rfl Hr.out
  · clear hm
    go_wp2_with fail
    exact ret_cell_tmp rfl rfl Ht.out rfl rfl Hr.out
end Go.Proofs.Ytpncblagjkbemaa
end
