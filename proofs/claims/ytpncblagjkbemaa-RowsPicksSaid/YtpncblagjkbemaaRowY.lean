/- The document's Project, Rename and Has. (Printed by rowy.py.) -/
import Derived.Test.YtpncblagjkbemaaRowZ
import Derived.Test.YtpncblagjkbemaaRowV
namespace Go.Proofs.Ytpncblagjkbemaa
open Go.RowKit
set_option linter.unusedVariables false
set_option linter.unusedSimpArgs false
attribute [local go_sem ↓] Go.wp_at_zero Go.wp_at_succ

theorem refMadeP_any (lo hi lc hc : Nat) (cols : List S) (ac : Option Addr) (cc : Nat) (l : List (List V)) (lv : Value) (w : World) (hcols : Strs lc hc w (.slice ac cols.length cc) cols) (hhc : hc ≤ w.heap.size) (hv : Rws lo hi w lv l) (hhi : hi ≤ w.heap.size) (hlen : l.length ≤ 1000000000000) (hrl : ∀ x ∈ l, x.length ≤ 4000000000000) (hrs : ∀ x ∈ l, ∀ a ∈ x, a.s.length ≤ 9223372036854775807) (R : Ending → World → Prop)
    (hR : ∀ w' cv2 lv2, Below w.heap.size w w' → Strs lc hc w' cv2 (okL (madeErr cols l) cols) → Rws w.heap.size w'.heap.size w' lv2 (okL (madeErr cols l) (relCanon l)) → R (.returned (.tuple #[.agg #[cv2, lv2], .int .i64 (madeErr cols l)])) w') :
    Calls Try.prog 74 #[.slice ac cols.length cc, lv] w R := by
  refine refMade_any lo hi cols ac cc l lv w hv hhi hlen hrl hrs R (fun hb w' hB => ?_) (fun h1 h2 w' lv2 hB hO => ?_)
  · have e : madeErr cols l = 140 := if_pos hb
    have := hR w' _ _ hB (by rw [e]; exact Sl.nil _ _ _ _ _) (by rw [e]; exact Sl.nil _ _ _ _ _)
    rw [e] at this
    exact this
  · have e : madeErr cols l = 0 := if_neg (by omega)
    have := hR w' _ lv2 hB (by rw [e]; exact Sl.below hcols Strs.loc hB hhc) (by rw [e]; exact hO)
    rw [e] at this
    exact this
/-- The end of a document's function that hands back a relation. -/
theorem refTail {w5 : World} {b : Nat} {pc pr : Option Addr} {nc nr qc qr : Nat} {x0 x1 : Value} (hb : Blk w5 b [x0, x1] 53) :
    (loadVar 53 ⟨b, 0, none⟩).run Try.prog ((w5.setCell ⟨b, 0, none⟩ (.slice pc nc qc)).setCell ⟨b, 1, none⟩ (.slice pr nr qr)) = .ok (.agg #[.slice pc nc qc, .slice pr nr qr]) ((w5.setCell ⟨b, 0, none⟩ (.slice pc nc qc)).setCell ⟨b, 1, none⟩ (.slice pr nr qr)) ∧
    (∀ lo hi, b < lo ∨ hi ≤ b → Agree lo hi w5 ((w5.setCell ⟨b, 0, none⟩ (.slice pc nc qc)).setCell ⟨b, 1, none⟩ (.slice pr nr qr))) ∧ ((w5.setCell ⟨b, 0, none⟩ (.slice pc nc qc)).setCell ⟨b, 1, none⟩ (.slice pr nr qr)).heap.size = w5.heap.size :=
  ⟨((hb.set 0 (.slice pc nc qc)).set 1 (.slice pr nr qr)).cells.runVar (fun _ => by kernel_rfl) (fun _ => by kernel_rfl), fun lo hi h => (Agree.setCell w5 (p := ⟨b, 0, none⟩) h _).trans (Agree.setCell _ (p := ⟨b, 1, none⟩) h _), by simp⟩
theorem pick_str {x : List V} {ks : List Int} (h : ∀ a ∈ x, a.s.length ≤ 9223372036854775807) : ∀ a ∈ pickL x ks, a.s.length ≤ 9223372036854775807 := by
  intro a ha
  obtain ⟨k, hk, rfl⟩ := List.mem_map.1 ha
  by_cases hl : k.toNat < x.length
  · rw [getDS x _ _ hl]; exact h _ (List.getElem_mem hl)
  · rw [List.getD_eq_getElem?_getD, List.getElem?_eq_none (by omega)]
    exact Nat.zero_le _
theorem pick_len (x : List V) (cols rc : List S) : (pickL x (placesL cols rc)).length = cols.length := by unfold pickL placesL; simp
set_option maxRecDepth 100000 in
set_option maxHeartbeats 4000000 in
theorem refProject_any (lo hi lc hc l2 h2 : Nat) (rc : List S) (ac : Option Addr) (cc : Nat) (l : List (List V)) (lv : Value) (cols : List S) (cv : Value) (w : World) (hrc : Strs lc hc w (.slice ac rc.length cc) rc) (hhc : hc ≤ w.heap.size) (hv : Rws lo hi w lv l) (hhi : hi ≤ w.heap.size) (hcols : Strs l2 h2 w cv cols) (hh2 : h2 ≤ w.heap.size) (hlen : cols.length ≤ 1000000000000) (hll : l.length ≤ 1000000000000) (hrs : ∀ x ∈ l, ∀ a ∈ x, a.s.length ≤ 9223372036854775807) (R : Ending → World → Prop)
    (hR : ∀ w' cv2 lv2, Below w.heap.size w w' → Strs l2 h2 w' cv2 (okL (projErr rc l cols) cols) → Rws w.heap.size w'.heap.size w' lv2 (okL (projErr rc l cols) (relCanon (l.map fun x => pickL x (placesL cols rc)))) → R (.returned (.tuple #[.agg #[cv2, lv2], .int .i64 (projErr rc l cols)])) w') :
    Calls Try.prog 31 #[.agg #[.slice ac rc.length cc, lv], cv] w R := by
  have HR := Lib.hid hR
  have Hv := Lib.hid hv
  have Hrc := Lib.hid hrc
  have Hc := Lib.hid hcols
  have Hrs := Lib.hid hrs
  obtain ⟨av, cv2, rfl, -, -, -, -⟩ := hv.form
  obtain ⟨ak, ck, rfl, -, -, -, -⟩ := hcols.form
  have hkl := hcols.len
  have hrl := hrc.len
  have hlv := hv.len
  clear hR hv hrc hcols hrs
  have hs1 : (w.alloc (.cells #[.slice ac rc.length cc, .slice av l.length cv2] 53)).heap.size = w.heap.size + 1 := by simp
  have hB1 := alloc_below w (.cells #[.slice ac rc.length cc, .slice av l.length cv2] 53)
  have hb1 := Blk.new w [.slice ac rc.length cc, .slice av l.length cv2] 53 rfl
  have hB2 := alloc_below (w.alloc (.cells #[.slice ac rc.length cc, .slice av l.length cv2] 53)) (.cells #[.slice none 0 0, .slice none 0 0] 53)
  have hb2 := Blk.new (w.alloc (.cells #[.slice ac rc.length cc, .slice av l.length cv2] 53)) [.slice none 0 0, .slice none 0 0] 53 hs1.symm
  have hb12 := hb1.below hB2 hb1.lt
  have hB := hB1.trans (hB2.mono hB1.size)
  go_enter Try.func31, Try.ntmps31
  go_upto_region 1 with fail
  generalize (w.alloc (.cells #[.slice ac rc.length cc, .slice av l.length cv2] 53)).alloc (.cells #[.slice none 0 0, .slice none 0 0] 53) = w2 at *
  have HB := Lib.hid hB
  have Hb1 := Lib.hid hb12
  have Hb2 := Lib.hid hb2
  have hz2 := hB.size
  have hl1 := hb12.lt
  have hl2 := hb2.lt
  obtain ⟨c0, c1⟩ := hb12.cells.c2
  simp only [Nat.zero_add] at c1
  clear hB1 hb1 hs1 hB2 hb2 hb12 hB
  go_wp2_with fail
  refine refMay_any lo hi lc hc rc _ _ l _ w2 (Sl.below Hrc.out Strs.loc HB.out hhc) (by omega) (Sl.below Hv.out rowE_loc HB.out hhi) (by omega) Hrs.out _ (fun w5 hB5 => ?_)
  have HB25 := Lib.hid hB5
  have hz5 := hB5.size
  have HB5 := Lib.hid (HB.out.trans (hB5.mono (by omega)))
  have hl25 : w.heap.size + 1 < w5.heap.size := by omega
  have Hb5 := Lib.hid (Hb1.out.below hB5 hl1)
  have Hb6 := Lib.hid (Hb2.out.below hB5 hl2)
  clear hB5 c0 c1
  obtain ⟨c0, c1⟩ := Hb5.out.cells.c2
  simp only [Nat.zero_add] at c1
  go_wp2_with fail
  refine within_any l2 h2 lc hc cols rc _ _ w5 (Sl.below Hc.out Strs.loc HB5.out hh2) (Sl.below Hrc.out Strs.loc HB5.out hhc) _ ?_
  go_wp2_with fail
  refine refOnce_any l2 h2 cols _ w5 (Sl.below Hc.out Strs.loc HB5.out hh2) _ ?_
  cases hm : mayRel rc l
  · obtain ⟨e0, e1⟩ := Hb6.out.cells.c2
    have f0 := Hb6.out.free 0
    have f1 := Hb6.out.free 1
    simp only [Nat.zero_add] at e1
    have he : projErr rc l cols = 2 := by unfold projErr; rw [hm]; rfl
    obtain ⟨t1, t2, t3⟩ := refTail (pc := none) (pr := none) (nc := 0) (nr := 0) (qc := 0) (qr := 0) Hb6.out
    have hr := HR.out _ _ _ ((HB5.out.setCell (p := ⟨w.heap.size + 1, 0, none⟩) (Nat.le_succ _) (.slice none 0 0)).setCell (p := ⟨w.heap.size + 1, 1, none⟩) (Nat.le_succ _) (.slice none 0 0)) (by rw [he]; exact Sl.nil _ _ _ _ _) (by rw [he]; exact Sl.nil _ _ _ _ _)
    rw [he] at hr
    have Hr := Lib.hid hr
    have Ht := Lib.hid t1
    clear hr t1 t2 t3 he hm
    go_wp2_with fail
    exact ret_cell_tmp rfl rfl Ht.out rfl rfl Hr.out
  have Hm := Lib.hid hm
  clear hm
  cases hw : withinB cols rc
  · obtain ⟨e0, e1⟩ := Hb6.out.cells.c2
    have f0 := Hb6.out.free 0
    have f1 := Hb6.out.free 1
    simp only [Nat.zero_add] at e1
    have he : projErr rc l cols = 2 := by unfold projErr; rw [hw, Hm.out]; rfl
    obtain ⟨t1, t2, t3⟩ := refTail (pc := none) (pr := none) (nc := 0) (nr := 0) (qc := 0) (qr := 0) Hb6.out
    have hr := HR.out _ _ _ ((HB5.out.setCell (p := ⟨w.heap.size + 1, 0, none⟩) (Nat.le_succ _) (.slice none 0 0)).setCell (p := ⟨w.heap.size + 1, 1, none⟩) (Nat.le_succ _) (.slice none 0 0)) (by rw [he]; exact Sl.nil _ _ _ _ _) (by rw [he]; exact Sl.nil _ _ _ _ _)
    rw [he] at hr
    have Hr := Lib.hid hr
    have Ht := Lib.hid t1
    clear hr t1 t2 t3 he hw
    go_wp2_with fail
    exact ret_cell_tmp rfl rfl Ht.out rfl rfl Hr.out
  have Hw := Lib.hid hw
  clear hw
  cases hon : onceB cols
  · obtain ⟨e0, e1⟩ := Hb6.out.cells.c2
    have f0 := Hb6.out.free 0
    have f1 := Hb6.out.free 1
    simp only [Nat.zero_add] at e1
    have he : projErr rc l cols = 2 := by unfold projErr; rw [hon, Hm.out, Hw.out]; rfl
    obtain ⟨t1, t2, t3⟩ := refTail (pc := none) (pr := none) (nc := 0) (nr := 0) (qc := 0) (qr := 0) Hb6.out
    have hr := HR.out _ _ _ ((HB5.out.setCell (p := ⟨w.heap.size + 1, 0, none⟩) (Nat.le_succ _) (.slice none 0 0)).setCell (p := ⟨w.heap.size + 1, 1, none⟩) (Nat.le_succ _) (.slice none 0 0)) (by rw [he]; exact Sl.nil _ _ _ _ _) (by rw [he]; exact Sl.nil _ _ _ _ _)
    rw [he] at hr
    have Hr := Lib.hid hr
    have Ht := Lib.hid t1
    clear hr t1 t2 t3 he hon
    go_wp2_with fail
    exact ret_cell_tmp rfl rfl Ht.out rfl rfl Hr.out
  have he : projErr rc l cols = madeErr cols (l.map fun x => pickL x (placesL cols rc)) := by unfold projErr; rw [hon, Hm.out, Hw.out]; rfl
  rw [he] at HR
  clear he hon
  go_upto_region 8 with fail
  go_loopw [9, 10] (fun t9 t10 wr => ∃ (k : Nat) (hs : List Value), k ≤ l.length ∧ t10 = .int .i64 k ∧ OwnR w5.heap.size wr t9 hs ((l.take k).map fun x => pickL x (placesL cols rc)) ∧ Below w5.heap.size w5 wr) (fun _ t10 _ => l.length - (intOf t10).toNat)
  case atStart => exact ⟨0, [], Nat.zero_le _, rfl, OwnR.nil _ _, Below.refl _ _⟩
  case round =>
    obtain ⟨k, hs, hk, rfl, ho, hB⟩ := hrel
    obtain ⟨wo, ewo⟩ : ∃ x, x = wr := ⟨_, rfl⟩
    subst ewo
    have Ho := Lib.hid ho
    have HBo := Lib.hid hB
    have HBw := Lib.hid (HB5.out.trans (hB.mono (by omega)))
    have hzo := hB.size
    have Hbo := Lib.hid (Hb5.out.below hB (by omega))
    have kk0 : (0 : Int) ≤ (k : Int) := by omega
    obtain ⟨po, co, hpo⟩ := Own.slice ho.own
    have Hsl : Hid (hs.length = k) := Lib.hid (by rw [ho.len, List.length_map, List.length_take]; omega)
    clear ho hB c0 c1
    obtain ⟨c0, c1⟩ := Hbo.out.cells.c2
    simp only [Nat.zero_add] at c1
    by_cases hlt : k < l.length
    · have kkl : (k : Int) < (l.length : Int) := by omega
      obtain ⟨b4, o4, rfl, hb4, hrow4⟩ := Rws.at (Sl.below Hv.out rowE_loc HBw.out hhi) (by omega) (by omega)
      obtain ⟨p2, c2, g2, r2⟩ := hrow4 k hlt
      have G2 := Lib.hid g2
      have R2 := Lib.hid r2
      have Hst : Hid ((l.take (k + 1)).map (fun x => pickL x (placesL cols rc)) = (l.take k).map (fun x => pickL x (placesL cols rc)) ++ [pickL l[k] (placesL cols rc)]) := Lib.hid (by rw [List.take_succ_eq_append_getElem hlt, List.map_append]; rfl)
      have Hxl : Hid (l[k].length = rc.length) := Lib.hid (may_len Hm.out _ (List.getElem_mem hlt))
      clear hrow4 g2 r2
      generalize l[k] = xb at *
      subst hpo
      go_upto_region 10 with fail
      have hS0 : Below wo.heap.size wo wo.drew := (Below.refl _ _).drew
      refine wp_region_held_drew (S := fun w' => Below wo.heap.size wo w') (by kernel_rfl) hS0 (fun hHeld => ?_)
      refine wpAnyH_take (i := 0) (v := .pointer (some ⟨w.heap.size, 1, none⟩)) rfl (by kernel_rfl) (by kernel_rfl) (by kernel_rfl) (fun _ _ _ h => h) (Or.inl ⟨by rfl, ?_⟩) hHeld ?_
      · intro w' hSw; go_simp
      try simp only [Act.put, List.getElem_toArray, List.getElem_cons_succ, List.getElem_cons_zero, List.setIfInBounds_toArray, List.set_cons_zero, List.set_cons_succ]
      refine wpAnyH_take (i := 1) (v := .slice (some ⟨b4, o4, none⟩) l.length cv2) rfl (by kernel_rfl) (by kernel_rfl) (by kernel_rfl) (fun _ _ _ h => h) (Or.inl ⟨by rfl, ?_⟩) hHeld ?_
      · intro w' hSw; obtain ⟨z0, z1⟩ := (Hbo.out.below hSw (by omega)).cells.c2; simp only [Nat.zero_add] at z1; go_simp
      try simp only [Act.put, List.getElem_toArray, List.getElem_cons_succ, List.getElem_cons_zero, List.setIfInBounds_toArray, List.set_cons_zero, List.set_cons_succ]
      refine wpAnyH_take (i := 2) (v := .int .i64 ((k : Int))) rfl (by kernel_rfl) (by kernel_rfl) (by kernel_rfl) (fun _ _ _ h => h) (Or.inl ⟨by rfl, ?_⟩) hHeld ?_
      · intro w' hSw; go_simp
      try simp only [Act.put, List.getElem_toArray, List.getElem_cons_succ, List.getElem_cons_zero, List.setIfInBounds_toArray, List.set_cons_zero, List.set_cons_succ]
      refine wpAnyH_take (i := 3) (v := .pointer (some ⟨b4, o4 + k, none⟩)) rfl (by kernel_rfl) (by kernel_rfl) (by kernel_rfl) (fun _ _ _ h => h) (Or.inl ⟨by rfl, ?_⟩) hHeld ?_
      · intro w' hSw; go_simp
      try simp only [Act.put, List.getElem_toArray, List.getElem_cons_succ, List.getElem_cons_zero, List.setIfInBounds_toArray, List.set_cons_zero, List.set_cons_succ]
      refine wpAnyH_take (i := 4) (v := .slice p2 xb.length c2) rfl (by kernel_rfl) (by kernel_rfl) (by kernel_rfl) (fun _ _ _ h => h) (Or.inl ⟨by rfl, ?_⟩) hHeld ?_
      · intro w' hSw; have kx := G2.out w' hSw; go_simp
      try simp only [Act.put, List.getElem_toArray, List.getElem_cons_succ, List.getElem_cons_zero, List.setIfInBounds_toArray, List.set_cons_zero, List.set_cons_succ]
      refine wpAnyH_take (i := 5) (v := .slice ak cols.length ck) rfl (by kernel_rfl) (by kernel_rfl) (by kernel_rfl) (fun _ _ _ h => h) (Or.inl ⟨by rfl, ?_⟩) hHeld ?_
      · intro w' hSw; go_simp
      try simp only [Act.put, List.getElem_toArray, List.getElem_cons_succ, List.getElem_cons_zero, List.setIfInBounds_toArray, List.set_cons_zero, List.set_cons_succ]
      refine wpAnyH_take (i := 6) (v := .pointer (some ⟨w.heap.size, 0, none⟩)) rfl (by kernel_rfl) (by kernel_rfl) (by kernel_rfl) (fun _ _ _ h => h) (Or.inl ⟨by rfl, ?_⟩) hHeld ?_
      · intro w' hSw; go_simp
      try simp only [Act.put, List.getElem_toArray, List.getElem_cons_succ, List.getElem_cons_zero, List.setIfInBounds_toArray, List.set_cons_zero, List.set_cons_succ]
      refine wpAnyH_take (i := 7) (v := .slice ac rc.length cc) rfl (by kernel_rfl) (by kernel_rfl) (by kernel_rfl) (fun _ _ _ h => h) (Or.inl ⟨by rfl, ?_⟩) hHeld ?_
      · intro w' hSw; obtain ⟨z0, z1⟩ := (Hbo.out.below hSw (by omega)).cells.c2; simp only [Nat.zero_add] at z1; go_simp
      try simp only [Act.put, List.getElem_toArray, List.getElem_cons_succ, List.getElem_cons_zero, List.setIfInBounds_toArray, List.set_cons_zero, List.set_cons_succ]
      refine wpAnyH_ready (rs := [8]) (by kernel_rfl) (by simp) ?_
      refine allCall (f := 79) (args := #[.slice p2 xb.length c2, .slice ak cols.length ck, .slice ac rc.length cc]) rfl (by kernel_rfl) (by kernel_rfl) ?_ AllReadyH.nil
      have HBd := Lib.hid (HBw.out.trans (hS0.mono (by omega)))
      refine refPick_any lo hi l2 h2 lc hc xb cols rc _ _ _ wo.drew (Sl.below R2.out Row1.loc hS0 (by omega)) (by show hi ≤ wo.heap.size; omega) (Sl.below Hc.out Strs.loc HBd.out hh2) (by show h2 ≤ wo.heap.size; omega) (Sl.below Hrc.out Strs.loc HBd.out hhc) (by show hc ≤ wo.heap.size; omega) Hw.out Hxl.out hlen _ (fun wq vq hBq hoq => ?_)
      have hBq' : Below wo.heap.size wo wq := hS0.trans hBq
      refine ⟨_, rfl, hBq', ?_⟩
      obtain ⟨py, hpy⟩ : ∃ py, pickL xb (placesL cols rc) = py := ⟨_, rfl⟩
      rw [hpy] at hoq Hst
      obtain ⟨pq, qq, rfl⟩ := Own.slice hoq
      have HBq := Lib.hid hBq'
      have Hoq : Hid (OwnV wo.heap.size wq (.slice pq py.length qq) py) := Lib.hid hoq
      clear hBq' hBq hoq hHeld hpy
      have hHeld := HBq.out
      try simp only [Act.put, List.getElem_toArray, List.getElem_cons_succ, List.getElem_cons_zero, List.setIfInBounds_toArray, List.set_cons_zero, List.set_cons_succ]
      refine wpAnyH_take (i := 9) (v := .slice pq py.length qq) rfl (by kernel_rfl) (by kernel_rfl) (by kernel_rfl) (fun _ _ _ h => h) (Or.inl ⟨by rfl, ?_⟩) hHeld ?_
      · intro w' hSw; go_simp
      try simp only [Act.put, List.getElem_toArray, List.getElem_cons_succ, List.getElem_cons_zero, List.setIfInBounds_toArray, List.set_cons_zero, List.set_cons_succ]
      refine wpAnyH_done (by kernel_rfl) ?_ _
      clear hHeld
      have Ho2 := Lib.hid (Ho.out.kept HBq.out)
      have hzq := HBq.out.size
      have hya : ∀ q, (Value.slice pq py.length qq).ownBlock = some q → (Value.slice po hs.length co).ownBlock ≠ some q := fun q hq2 e => by
        have h1 := (Own.lt Hoq.out q hq2).1
        have h2 := (Own.lt Ho.out.own q e).2
        omega
      obtain ⟨v3, w3, hr3, ho3, ha3⟩ := appH1 Ho2.out.own pq py.length qq rfl (by rw [Hsl.out]; omega) (by omega)
      have HO3 := Lib.hid (Ho2.out.snoc (Own.lower Hoq.out (by omega)) hya ho3 ha3)
      have HB3 := Lib.hid ((HBo.out.trans (HBq.out.mono (by omega))).trans (ha3.below (B := w5.heap.size) (by omega) (fun q e => (Own.lt Ho.out.own q e).1)))
      clear ho3 ha3 hya
      go_wp2_with (at_builtin; refine AtApp.of ?_)
      refine AtApp.go hr3 rfl rfl rfl rfl ?_
      go_wp2_with fail
      go_roundw
      case rel => exact ⟨k + 1, _, by omega, by go_num, by rw [Hst.out]; exact HO3.out, HB3.out⟩
      case measure => simp [intOf]; omega
    · obtain rfl : k = l.length := by omega
      have llt : ¬ ((l.length : Nat) : Int) < (l.length : Int) := by omega
      have hO := Ho.out
      rw [List.take_length] at hO
      have HO := Lib.hid hO
      clear hO
      have hll2 : (l.map fun x => pickL x (placesL cols rc)).length ≤ 1000000000000 := by rw [List.length_map]; exact hll
      have HB5M := Lib.hid HBo.out
      rw [Hsl.out] at hpo
      subst hpo
      go_wp2_with fail
      refine refMadeP_any w5.heap.size wo.heap.size l2 h2 cols _ _ (l.map fun x => pickL x (placesL cols rc)) _ wo (Sl.below Hc.out Strs.loc HBw.out hh2) (by omega) (OwnR.rws HO.out) (Nat.le_refl _) hll2 (fun x hx => by
        obtain ⟨y, hy, rfl⟩ := List.mem_map.1 hx
        rw [pick_len]; omega) (fun x hx => by
        obtain ⟨y, hy, rfl⟩ := List.mem_map.1 hx
        exact pick_str (Hrs.out y hy)) _ (fun w7 cv7 lv7 hB7 hT7 hO7 => ?_)
      generalize hE : madeErr cols (l.map fun x => pickL x (placesL cols rc)) = err at *
      generalize okL err cols = oc at *
      generalize okL err (relCanon (l.map fun x => pickL x (placesL cols rc))) = ol at *
      obtain ⟨p7, q7, rfl, -, -, -, -⟩ := hT7.form
      obtain ⟨p8, q8, rfl, -, -, -, -⟩ := hO7.form
      have hB57 : Below w5.heap.size w5 w7 := HB5M.out.trans (hB7.mono (by omega))
      have hb7 := Hb6.out.below hB57 hl25
      obtain ⟨e0, e1⟩ := hb7.cells.c2
      have f0 := hb7.free 0
      have f1 := hb7.free 1
      simp only [Nat.zero_add] at e1
      obtain ⟨t1, t2, t3⟩ := refTail (pc := p7) (pr := p8) (nc := oc.length) (nr := ol.length) (qc := q7) (qr := q8) hb7
      have hr := HR.out _ _ _ (((HB5.out.trans (hB57.mono (by omega))).setCell (p := ⟨w.heap.size + 1, 0, none⟩) (Nat.le_succ _) (.slice p7 oc.length q7)).setCell (p := ⟨w.heap.size + 1, 1, none⟩) (Nat.le_succ _) (.slice p8 ol.length q8)) (Sl.agree hT7 Strs.loc (t2 _ _ (.inr (by omega)))) (Sl.mono (Sl.agree hO7 rowE_loc (t2 _ _ (.inl (by omega)))) rowE_loc (by omega) (Nat.le_of_eq t3.symm))
      have Hr := Lib.hid hr
      have Ht := Lib.hid t1
      clear hr t1 t2 t3 hb7 hB57 hB7 hT7 hO7
      go_wp2_with fail
      exact ret_cell_tmp rfl rfl Ht.out rfl rfl Hr.out
set_option maxRecDepth 100000 in
set_option maxHeartbeats 4000000 in
theorem refRename_any (lo hi lc hc l2 h2 : Nat) (rc : List S) (ac : Option Addr) (cc : Nat) (l : List (List V)) (lv : Value) (cols : List S) (cv : Value) (w : World) (hrc : Strs lc hc w (.slice ac rc.length cc) rc) (hhc : hc ≤ w.heap.size) (hv : Rws lo hi w lv l) (hhi : hi ≤ w.heap.size) (hcols : Strs l2 h2 w cv cols) (hh2 : h2 ≤ w.heap.size) (hll : l.length ≤ 1000000000000) (hrs : ∀ x ∈ l, ∀ a ∈ x, a.s.length ≤ 9223372036854775807) (R : Ending → World → Prop)
    (hR : ∀ w' cv2 lv2, Below w.heap.size w w' → Strs l2 h2 w' cv2 (okL (renErr rc l cols) cols) → Rws w.heap.size w'.heap.size w' lv2 (okL (renErr rc l cols) (relCanon l)) → R (.returned (.tuple #[.agg #[cv2, lv2], .int .i64 (renErr rc l cols)])) w') :
    Calls Try.prog 34 #[.agg #[.slice ac rc.length cc, lv], cv] w R := by
  have HR := Lib.hid hR
  have Hv := Lib.hid hv
  have Hrc := Lib.hid hrc
  have Hc := Lib.hid hcols
  have Hrs := Lib.hid hrs
  obtain ⟨av, cv2, rfl, -, -, -, -⟩ := hv.form
  obtain ⟨ak, ck, rfl, -, -, -, -⟩ := hcols.form
  have hkl := hcols.len
  have hrl := hrc.len
  have hlv := hv.len
  clear hR hv hrc hcols hrs
  have hs1 : (w.alloc (.cells #[.slice ac rc.length cc, .slice av l.length cv2] 53)).heap.size = w.heap.size + 1 := by simp
  have hB1 := alloc_below w (.cells #[.slice ac rc.length cc, .slice av l.length cv2] 53)
  have hb1 := Blk.new w [.slice ac rc.length cc, .slice av l.length cv2] 53 rfl
  have hB2 := alloc_below (w.alloc (.cells #[.slice ac rc.length cc, .slice av l.length cv2] 53)) (.cells #[.slice none 0 0, .slice none 0 0] 53)
  have hb2 := Blk.new (w.alloc (.cells #[.slice ac rc.length cc, .slice av l.length cv2] 53)) [.slice none 0 0, .slice none 0 0] 53 hs1.symm
  have hb12 := hb1.below hB2 hb1.lt
  have hB := hB1.trans (hB2.mono hB1.size)
  go_enter Try.func34, Try.ntmps34
  go_upto_region 1 with fail
  generalize (w.alloc (.cells #[.slice ac rc.length cc, .slice av l.length cv2] 53)).alloc (.cells #[.slice none 0 0, .slice none 0 0] 53) = w2 at *
  have HB := Lib.hid hB
  have Hb1 := Lib.hid hb12
  have Hb2 := Lib.hid hb2
  have hz2 := hB.size
  have hl1 := hb12.lt
  have hl2 := hb2.lt
  obtain ⟨c0, c1⟩ := hb12.cells.c2
  simp only [Nat.zero_add] at c1
  clear hB1 hb1 hs1 hB2 hb2 hb12 hB
  go_wp2_with fail
  refine refMay_any lo hi lc hc rc _ _ l _ w2 (Sl.below Hrc.out Strs.loc HB.out hhc) (by omega) (Sl.below Hv.out rowE_loc HB.out hhi) (by omega) Hrs.out _ (fun w5 hB5 => ?_)
  have HB25 := Lib.hid hB5
  have hz5 := hB5.size
  have HB5 := Lib.hid (HB.out.trans (hB5.mono (by omega)))
  have hl25 : w.heap.size + 1 < w5.heap.size := by omega
  have Hb5 := Lib.hid (Hb1.out.below hB5 hl1)
  have Hb6 := Lib.hid (Hb2.out.below hB5 hl2)
  clear hB5 c0 c1
  obtain ⟨c0, c1⟩ := Hb5.out.cells.c2
  simp only [Nat.zero_add] at c1
  go_wp2_with fail
  refine refOnce_any l2 h2 cols _ w5 (Sl.below Hc.out Strs.loc HB5.out hh2) _ ?_
  cases hm : mayRel rc l
  · obtain ⟨e0, e1⟩ := Hb6.out.cells.c2
    have f0 := Hb6.out.free 0
    have f1 := Hb6.out.free 1
    simp only [Nat.zero_add] at e1
    have he : renErr rc l cols = 2 := by unfold renErr; rw [hm]; rfl
    obtain ⟨t1, t2, t3⟩ := refTail (pc := none) (pr := none) (nc := 0) (nr := 0) (qc := 0) (qr := 0) Hb6.out
    have hr := HR.out _ _ _ ((HB5.out.setCell (p := ⟨w.heap.size + 1, 0, none⟩) (Nat.le_succ _) (.slice none 0 0)).setCell (p := ⟨w.heap.size + 1, 1, none⟩) (Nat.le_succ _) (.slice none 0 0)) (by rw [he]; exact Sl.nil _ _ _ _ _) (by rw [he]; exact Sl.nil _ _ _ _ _)
    rw [he] at hr
    have Hr := Lib.hid hr
    have Ht := Lib.hid t1
    clear hr t1 t2 t3 he hm
    go_wp2_with fail
    exact ret_cell_tmp rfl rfl Ht.out rfl rfl Hr.out
  have Hm := Lib.hid hm
  clear hm
  by_cases hle : cols.length = rc.length
  case neg =>
    have c2 : ((cols.length : Int) != (rc.length : Int)) = true := by simp; omega
    obtain ⟨e0, e1⟩ := Hb6.out.cells.c2
    have f0 := Hb6.out.free 0
    have f1 := Hb6.out.free 1
    simp only [Nat.zero_add] at e1
    have he : renErr rc l cols = 2 := by unfold renErr; rw [decide_eq_false hle]; simp
    obtain ⟨t1, t2, t3⟩ := refTail (pc := none) (pr := none) (nc := 0) (nr := 0) (qc := 0) (qr := 0) Hb6.out
    have hr := HR.out _ _ _ ((HB5.out.setCell (p := ⟨w.heap.size + 1, 0, none⟩) (Nat.le_succ _) (.slice none 0 0)).setCell (p := ⟨w.heap.size + 1, 1, none⟩) (Nat.le_succ _) (.slice none 0 0)) (by rw [he]; exact Sl.nil _ _ _ _ _) (by rw [he]; exact Sl.nil _ _ _ _ _)
    rw [he] at hr
    have Hr := Lib.hid hr
    have Ht := Lib.hid t1
    clear hr t1 t2 t3 he hle
    go_wp2_with fail
    exact ret_cell_tmp rfl rfl Ht.out rfl rfl Hr.out
  have Hle : Hid (cols.length = rc.length) := Lib.hid hle
  have c2 : ((cols.length : Int) != (rc.length : Int)) = false := by simp; omega
  clear hle
  cases hon : onceB cols
  · obtain ⟨e0, e1⟩ := Hb6.out.cells.c2
    have f0 := Hb6.out.free 0
    have f1 := Hb6.out.free 1
    simp only [Nat.zero_add] at e1
    have he : renErr rc l cols = 2 := by unfold renErr; rw [hon]; simp
    obtain ⟨t1, t2, t3⟩ := refTail (pc := none) (pr := none) (nc := 0) (nr := 0) (qc := 0) (qr := 0) Hb6.out
    have hr := HR.out _ _ _ ((HB5.out.setCell (p := ⟨w.heap.size + 1, 0, none⟩) (Nat.le_succ _) (.slice none 0 0)).setCell (p := ⟨w.heap.size + 1, 1, none⟩) (Nat.le_succ _) (.slice none 0 0)) (by rw [he]; exact Sl.nil _ _ _ _ _) (by rw [he]; exact Sl.nil _ _ _ _ _)
    rw [he] at hr
    have Hr := Lib.hid hr
    have Ht := Lib.hid t1
    clear hr t1 t2 t3 he hon
    go_wp2_with fail
    exact ret_cell_tmp rfl rfl Ht.out rfl rfl Hr.out
  have he : renErr rc l cols = madeErr cols l := by unfold renErr; rw [hon, Hm.out, decide_eq_true Hle.out]; rfl
  rw [he] at HR
  have hcl := once_len hon
  clear he hon
  have HB5M : Hid (Below w5.heap.size w5 w5) := Lib.hid (Below.refl _ _)
  go_wp2_with fail
  refine refMadeP_any lo hi l2 h2 cols _ _ l _ w5 (Sl.below Hc.out Strs.loc HB5.out hh2) (by omega) (Sl.below Hv.out rowE_loc HB5.out hhi) (by omega) hll (fun x hx => by
    rw [may_len Hm.out x hx, ← Hle.out]; omega) Hrs.out _ (fun w7 cv7 lv7 hB7 hT7 hO7 => ?_)
  generalize hE : madeErr cols l = err at *
  generalize okL err cols = oc at *
  generalize okL err (relCanon l) = ol at *
  obtain ⟨p7, q7, rfl, -, -, -, -⟩ := hT7.form
  obtain ⟨p8, q8, rfl, -, -, -, -⟩ := hO7.form
  have hB57 : Below w5.heap.size w5 w7 := HB5M.out.trans (hB7.mono (by omega))
  have hb7 := Hb6.out.below hB57 hl25
  obtain ⟨e0, e1⟩ := hb7.cells.c2
  have f0 := hb7.free 0
  have f1 := hb7.free 1
  simp only [Nat.zero_add] at e1
  obtain ⟨t1, t2, t3⟩ := refTail (pc := p7) (pr := p8) (nc := oc.length) (nr := ol.length) (qc := q7) (qr := q8) hb7
  have hr := HR.out _ _ _ (((HB5.out.trans (hB57.mono (by omega))).setCell (p := ⟨w.heap.size + 1, 0, none⟩) (Nat.le_succ _) (.slice p7 oc.length q7)).setCell (p := ⟨w.heap.size + 1, 1, none⟩) (Nat.le_succ _) (.slice p8 ol.length q8)) (Sl.agree hT7 Strs.loc (t2 _ _ (.inr (by omega)))) (Sl.mono (Sl.agree hO7 rowE_loc (t2 _ _ (.inl (by omega)))) rowE_loc (by omega) (Nat.le_of_eq t3.symm))
  have Hr := Lib.hid hr
  have Ht := Lib.hid t1
  clear hr t1 t2 t3 hb7 hB57 hB7 hT7 hO7
  go_wp2_with fail
  exact ret_cell_tmp rfl rfl Ht.out rfl rfl Hr.out
set_option maxRecDepth 100000 in
set_option maxHeartbeats 4000000 in
theorem refHas_any (lo hi lc hc l2 h2 : Nat) (rc : List S) (ac : Option Addr) (cc : Nat) (l : List (List V)) (lv : Value) (x : List V) (vx : Value) (w : World) (hrc : Strs lc hc w (.slice ac rc.length cc) rc) (hhc : hc ≤ w.heap.size) (hv : Rws lo hi w lv l) (hhi : hi ≤ w.heap.size) (hx : Row1 l2 h2 w vx x) (hh2 : h2 ≤ w.heap.size) (hrs : ∀ x ∈ l, ∀ a ∈ x, a.s.length ≤ 9223372036854775807) (hxs : ∀ a ∈ x, a.s.length ≤ 9223372036854775807) (R : Ending → World → Prop)
    (hR : ∀ w', Below w.heap.size w w' → R (.returned (.bool (hasB rc l x))) w') : Calls Try.prog 40 #[.agg #[.slice ac rc.length cc, lv], vx] w R := by
  have HR := Lib.hid hR
  have Hv := Lib.hid hv
  have Hrc := Lib.hid hrc
  have Hx := Lib.hid hx
  have Hrs := Lib.hid hrs
  have Hxs := Lib.hid hxs
  obtain ⟨av, cv2, rfl, -, -, -, -⟩ := hv.form
  obtain ⟨ax, cx, rfl, -, -, -, -⟩ := hx.form
  have hlv := hv.len
  clear hR hv hrc hx hrs hxs
  go_enter Try.func40, Try.ntmps40
  go_upto_region 1 with fail
  have hBa := alloc_below w (.cells #[.slice ac rc.length cc, .slice av l.length cv2] 53)
  have hba := Blk.new w [.slice ac rc.length cc, .slice av l.length cv2] 53 rfl
  generalize w.alloc (.cells #[.slice ac rc.length cc, .slice av l.length cv2] 53) = w2 at *
  have HB := Lib.hid hBa
  have Hb1 := Lib.hid hba
  have hz2 := hBa.size
  have hl1 := hba.lt
  obtain ⟨c0, c1⟩ := hba.cells.c2
  simp only [Nat.zero_add] at c1
  clear hBa hba
  go_wp2_with fail
  refine refMay_any lo hi lc hc rc _ _ l _ w2 (Sl.below Hrc.out Strs.loc HB.out hhc) (by omega) (Sl.below Hv.out rowE_loc HB.out hhi) (by omega) Hrs.out _ (fun w5 hB5 => ?_)
  have hz5 := hB5.size
  have HB5 := Lib.hid (HB.out.trans (hB5.mono (by omega)))
  have Hb5 := Lib.hid (Hb1.out.below hB5 hl1)
  clear hB5 c0 c1
  cases hm : mayRel rc l
  · have hr := HR.out w5 HB5.out
    rw [show hasB rc l x = false by unfold hasB; rw [hm]; rfl] at hr
    clear hm
    go_wp2_with fail
    first | exact hr | exact fin hr rfl
  have he : hasB rc l x = l.any (fun y => cmpR y x == 0) := by unfold hasB; rw [hm]; rfl
  rw [he] at HR
  clear he hm
  go_wp2_with fail
  go_loopw [6] (fun t6 wr => ∃ (k : Nat), k ≤ l.length ∧ t6 = .int .i64 k ∧ (l.take k).any (fun y => cmpR y x == 0) = false ∧ Below w5.heap.size w5 wr) (fun t6 _ => l.length - (intOf t6).toNat)
  case atStart => exact ⟨0, Nat.zero_le _, rfl, rfl, Below.refl _ _⟩
  case round =>
    obtain ⟨k, hk, rfl, hno, hB⟩ := hrel
    obtain ⟨wo, ewo⟩ : ∃ x, x = wr := ⟨_, rfl⟩
    subst ewo
    have Hno := Lib.hid hno
    have HBo := Lib.hid hB
    have HBw := Lib.hid (HB5.out.trans (hB.mono (by omega)))
    have hzo := HBw.out.size
    have hz5o := hB.size
    obtain ⟨c0, c1⟩ := (Hb5.out.below hB (by omega)).cells.c2
    simp only [Nat.zero_add] at c1
    have kk0 : (0 : Int) ≤ (k : Int) := by omega
    clear hno hB
    by_cases hlt : k < l.length
    · have kkl : (k : Int) < (l.length : Int) := by omega
      obtain ⟨b4, o4, rfl, hb4, hrow4⟩ := Rws.at (Sl.below Hv.out rowE_loc HBw.out hhi) (by omega) (by omega)
      obtain ⟨p2, c2, g2, r2⟩ := hrow4 k hlt
      have g0 := g2 wo (Below.refl _ _)
      have R2 := Lib.hid r2
      have M2 := Lib.hid (Hrs.out _ (List.getElem_mem hlt))
      have Hst := Lib.hid (any_take_succ l (fun y => cmpR y x == 0) k hlt)
      have Hyes : Hid (cmpR l[k] x = 0 → l.any (fun y => cmpR y x == 0) = true) := Lib.hid (fun h => List.any_eq_true.2 ⟨_, List.getElem_mem hlt, by simp [h]⟩)
      clear hrow4 g2 r2
      generalize l[k] = xb at *
      go_wp2_with fail
      refine refRowsCompare_any lo hi l2 h2 xb x _ _ wo R2.out (Sl.below Hx.out Row1.loc HBw.out hh2) (by omega) (by omega) M2.out Hxs.out _ (fun wq hBq => ?_)
      have HBq := Lib.hid (HBo.out.trans (hBq.mono (by omega)))
      have HBqw := Lib.hid (HBw.out.trans (hBq.mono (by omega)))
      clear hBq
      by_cases h0 : cmpR xb x = 0
      · have hr := HR.out wq HBqw.out
        rw [Hyes.out h0] at hr
        rw [h0]
        clear h0 Hyes Hst
        go_wp2_with fail
        first | exact hr | exact fin hr rfl
      · have g1 : (cmpR xb x == 0) = false := by simp [h0]
        have Hnx : Hid ((l.take (k + 1)).any (fun y => cmpR y x == 0) = false) := Lib.hid (by rw [Hst.out, Hno.out, g1]; rfl)
        clear h0 Hyes Hst
        generalize cmpR xb x = cv at *
        go_wp2_with fail
        go_roundw
        case rel => exact ⟨k + 1, by omega, by go_num, Hnx.out, HBq.out⟩
        case measure => simp [intOf]; omega
    · obtain rfl : k = l.length := by omega
      have llt : ¬ ((l.length : Nat) : Int) < (l.length : Int) := by omega
      have hr := HR.out wo HBw.out
      have h := Hno.out
      rw [List.take_length] at h
      rw [h] at hr
      clear h
      go_wp2_with fail
      first | exact hr | exact fin hr rfl
end Go.Proofs.Ytpncblagjkbemaa
