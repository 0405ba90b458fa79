/- Texts that the proofs of FoldTells stand on, part 6. -/
import Derived.Test.YtmconajkgjfplaaGreatKFoldTells5
/- The document's Join. (Printed by mep.py, merf.py.) -/
section
set_option linter.unusedVariables false
set_option linter.unusedSimpArgs false
namespace Go.Proofs.YtmconajkgjfplaaGreat
open Go.RowKit
set_option linter.unusedVariables false
set_option linter.unusedSimpArgs false
attribute [local go_sem ↓] Go.wp_at_zero Go.wp_at_succ

theorem joinL_take (ac : List S) (la : List (List V)) (bc : List S) (lb : List (List V)) (i : Nat) (h : i < la.length) : joinL ac (la.take (i + 1)) bc lb = joinL ac (la.take i) bc lb ++ ((lb.filter (agreeR ac bc la[i])).map fun y => la[i] ++ pickL y (placesL (restC ac bc) bc)) := by
  unfold joinL
  rw [List.take_succ_eq_append_getElem h, List.flatMap_append]
  simp
theorem joinL_len (ac : List S) (la : List (List V)) (bc : List S) (lb : List (List V)) : (joinL ac la bc lb).length ≤ la.length * lb.length := by
  unfold joinL
  induction la with
  | nil => simp
  | cons a r ih =>
    rw [List.flatMap_cons, List.length_append, List.length_map, List.length_cons, Nat.succ_mul]
    have : (lb.filter (agreeR ac bc a)).length ≤ lb.length := List.length_filter_le _ _
    omega
theorem within_rest (a b : List S) : withinB (restC a b) b = true := within_sub (fun c h => (List.mem_filter.1 h).1)
set_option maxRecDepth 100000 in
set_option pp.deepTerms true in
set_option maxHeartbeats 16000000 in
theorem refJoin_any (lca hca lra hra lcb hcb lrb hrb : Nat) (ac bc : List S) (pa pb : Option Addr) (ca cb : Nat) (la lb : List (List V)) (lva lvb : Value) (w : World) (ha : Strs lca hca w (.slice pa ac.length ca) ac) (hha : hca ≤ w.heap.size) (hla : Rws lra hra w lva la) (hhla : hra ≤ w.heap.size) (hb : Strs lcb hcb w (.slice pb bc.length cb) bc) (hhb : hcb ≤ w.heap.size) (hlb : Rws lrb hrb w lvb lb) (hhlb : hrb ≤ w.heap.size) (hras : ∀ x ∈ la, ∀ a ∈ x, a.s.length ≤ 9223372036854775807) (hrbs : ∀ x ∈ lb, ∀ a ∈ x, a.s.length ≤ 9223372036854775807) (hll : la.length ≤ 1000000) (hllb : lb.length ≤ 1000000) (R : Ending → World → Prop)
    (hR : ∀ w' cv2 lv2, Below w.heap.size w w' → Strs w.heap.size w'.heap.size w' cv2 (okL (joinErr ac la bc lb) (joinCols ac bc)) → Rws w.heap.size w'.heap.size w' lv2 (okL (joinErr ac la bc lb) (relCanon (joinL ac la bc lb))) → R (.returned (.tuple #[.agg #[cv2, lv2], .int .i64 (joinErr ac la bc lb)])) w') :
    Calls Tryz.prog 72 #[.agg #[.slice pa ac.length ca, lva], .agg #[.slice pb bc.length cb, lvb]] w R := by
  have HR := Lib.hid hR
  have Ha := Lib.hid ha
  have Hb := Lib.hid hb
  have Hla := Lib.hid hla
  have Hlb := Lib.hid hlb
  have Hras := Lib.hid hras
  have Hrbs := Lib.hid hrbs
  obtain ⟨av, av2, rfl, -, -, -, -⟩ := hla.form
  obtain ⟨bv, bv2, rfl, -, -, -, -⟩ := hlb.form
  have hal63 := ha.len
  have hbl63 := hb.len
  clear hR ha hb hla hlb hras hrbs
  obtain ⟨wa, ewa⟩ : ∃ x, x = w.alloc (.cells #[.slice pa ac.length ca, .slice av la.length av2] 50) := ⟨_, rfl⟩
  obtain ⟨wb, ewb⟩ : ∃ x, x = wa.alloc (.cells #[.slice pb bc.length cb, .slice bv lb.length bv2] 50) := ⟨_, rfl⟩
  obtain ⟨w2, ew2⟩ : ∃ x, x = wb.alloc (.cells #[.slice none 0 0, .slice none 0 0] 50) := ⟨_, rfl⟩
  have sa : wa.heap.size = w.heap.size + 1 := by rw [ewa]; simp
  have sb : wb.heap.size = w.heap.size + 1 + 1 := by rw [ewb]; simp [sa]
  have hBa : Below w.heap.size w wa := by rw [ewa]; exact alloc_below _ _
  have hBb : Below wa.heap.size wa wb := by rw [ewb]; exact alloc_below _ _
  have hBc : Below wb.heap.size wb w2 := by rw [ew2]; exact alloc_below _ _
  have hb1 : Blk wa w.heap.size [.slice pa ac.length ca, .slice av la.length av2] 50 := by rw [ewa]; exact Blk.new w [.slice pa ac.length ca, .slice av la.length av2] _ rfl
  have hb2 : Blk wb (w.heap.size + 1) [.slice pb bc.length cb, .slice bv lb.length bv2] 50 := by rw [ewb]; exact Blk.new wa [.slice pb bc.length cb, .slice bv lb.length bv2] _ sa.symm
  have hb3 : Blk w2 (w.heap.size + 1 + 1) [.slice none 0 0, .slice none 0 0] 50 := by rw [ew2]; exact Blk.new wb [.slice none 0 0, .slice none 0 0] _ sb.symm
  have hb1 := (hb1.below hBb hb1.lt).below hBc (by omega)
  have hb2 := hb2.below hBc hb2.lt
  have hB := hBa.trans ((hBb.mono hBa.size).trans (hBc.mono (by omega)))
  go_enter Tryz.func72, Tryz.ntmps72
  go_upto_region 1 with fail
  rw [← ewa, ← ewb, ← ew2]
  clear ewa ewb ew2 hBa hBb hBc sa sb
  have HB := Lib.hid hB
  have Hb1 := Lib.hid hb1
  have Hb2 := Lib.hid hb2
  have Hb3 := Lib.hid hb3
  have hz2 := hB.size
  have hl3 := hb3.lt
  clear hb1 hb2 hb3 hB
  obtain ⟨c0, c1⟩ := Hb1.out.cells.c2
  simp only [Nat.zero_add] at c1
  go_wp2_with fail
  refine refMay_any lra hra lca hca ac _ _ la _ w2 (Sl.below Ha.out Strs.loc HB.out hha) (by omega) (Sl.below Hla.out rowE_loc HB.out hhla) (by omega) Hras.out _ (fun w5 hB5 => ?_)
  have hz5 := hB5.size
  have HA5 := Lib.hid hB5
  have HW5 := Lib.hid (HB.out.trans (hB5.mono hz2))
  clear hB5 c0 c1
  obtain ⟨c0, c1⟩ := (Hb2.out.below HA5.out (by omega)).cells.c2
  simp only [Nat.zero_add] at c1
  go_wp2_with fail
  refine refMay_any lrb hrb lcb hcb bc _ _ lb _ w5 (Sl.below Hb.out Strs.loc HW5.out hhb) (by omega) (Sl.below Hlb.out rowE_loc HW5.out hhlb) (by omega) Hrbs.out _ (fun w6 hB6 => ?_)
  have hz6 := hB6.size
  have HA6 := Lib.hid (HA5.out.trans (hB6.mono (by omega)))
  have HW6 := Lib.hid (HB.out.trans (HA6.out.mono hz2))
  clear hB6 c0 c1
  have Hd1 := Lib.hid (Hb1.out.below HA6.out (by omega))
  have Hd2 := Lib.hid (Hb2.out.below HA6.out (by omega))
  have Hd3 := Lib.hid (Hb3.out.below HA6.out hl3)
  have hld : w.heap.size + 1 + 1 < w6.heap.size := by omega
  obtain ⟨c0, c1⟩ := Hd1.out.cells.c2
  obtain ⟨d0, d1⟩ := Hd2.out.cells.c2
  simp only [Nat.zero_add] at c1 d1
  cases hm : mayRel ac la
  · obtain ⟨e0, e1⟩ := Hd3.out.cells.c2
    have f0 := Hd3.out.free 0
    have f1 := Hd3.out.free 1
    simp only [Nat.zero_add] at e1
    have he : joinErr ac la bc lb = 2 := by unfold joinErr; rw [hm]; rfl
    obtain ⟨t1, t2, t3⟩ := refTail (pc := none) (pr := none) (nc := 0) (nr := 0) (qc := 0) (qr := 0) Hd3.out
    have hr := HR.out _ _ _ ((HW6.out.setCell (p := ⟨w.heap.size + 1 + 1, 0, none⟩) (by show w.heap.size ≤ w.heap.size + 1 + 1; omega) (.slice none 0 0)).setCell (p := ⟨w.heap.size + 1 + 1, 1, none⟩) (by show w.heap.size ≤ w.heap.size + 1 + 1; omega) (.slice none 0 0)) (by rw [he]; exact Sl.nil _ _ _ _ _) (by rw [he]; exact Sl.nil _ _ _ _ _)
    rw [he] at hr
    have Hr := Lib.hid hr
    have Ht := Lib.hid t1
    clear hr t1 t2 t3 he hm
    go_wp2_with fail
    exact ret_cell_tmp rfl rfl Ht.out rfl rfl Hr.out
  have Hm := Lib.hid hm
  clear hm
  cases hmb : mayRel bc lb
  · obtain ⟨e0, e1⟩ := Hd3.out.cells.c2
    have f0 := Hd3.out.free 0
    have f1 := Hd3.out.free 1
    simp only [Nat.zero_add] at e1
    have he : joinErr ac la bc lb = 2 := by unfold joinErr; rw [Hm.out, hmb]; rfl
    obtain ⟨t1, t2, t3⟩ := refTail (pc := none) (pr := none) (nc := 0) (nr := 0) (qc := 0) (qr := 0) Hd3.out
    have hr := HR.out _ _ _ ((HW6.out.setCell (p := ⟨w.heap.size + 1 + 1, 0, none⟩) (by show w.heap.size ≤ w.heap.size + 1 + 1; omega) (.slice none 0 0)).setCell (p := ⟨w.heap.size + 1 + 1, 1, none⟩) (by show w.heap.size ≤ w.heap.size + 1 + 1; omega) (.slice none 0 0)) (by rw [he]; exact Sl.nil _ _ _ _ _) (by rw [he]; exact Sl.nil _ _ _ _ _)
    rw [he] at hr
    have Hr := Lib.hid hr
    have Ht := Lib.hid t1
    clear hr t1 t2 t3 he hmb
    go_wp2_with fail
    exact ret_cell_tmp rfl rfl Ht.out rfl rfl Hr.out
  have Hmb := Lib.hid hmb
  clear hmb
  have hmca := (may_many Hm.out).2
  have hmcb := (may_many Hmb.out).2
  have hrcl := rest_len ac bc
  have he : joinErr ac la bc lb = madeErr (joinCols ac bc) (joinL ac la bc lb) := by unfold joinErr; rw [Hm.out, Hmb.out]; rfl
  rw [he] at HR
  clear he
  have Hag : Hid (∀ x y, refAgreeB ac bc x y = agreeR ac bc x y) := Lib.hid (fun x y => agree_same x y (may_once Hm.out))
  obtain ⟨v8, w8, hr8, ho8, ha8⟩ := appTL (Own.nil strE 9 1 w6.heap.size w6) (Sl.below Ha.out Strs.loc HW6.out hha) (by simp; omega) (Nat.le_refl _)
  rw [List.nil_append] at ho8
  have hB8 : Below w6.heap.size w6 w8 := ha8.below (Nat.le_refl _) (fun k e => by cases e)
  have HB8 := Lib.hid hB8
  have Ho8 := Lib.hid ho8
  have Hr8 := Lib.hid hr8
  have hz8 := hB8.size
  clear hr8 ho8 ha8 hB8
  go_wp2_with (at_builtin; refine AtApp.of ?_)
  refine AtApp.go Hr8.out rfl rfl rfl rfl ?_
  obtain ⟨p8, q8, rfl⟩ := Own.slice Ho8.out
  clear c0 c1 d0 d1
  go_wp2_with fail
  go_loopw [9, 10] (fun t9 t10 wr => ∃ (k : Nat), k ≤ bc.length ∧ t10 = .int .i64 k ∧ OwnT w8.heap.size wr t9 (restC ac (bc.take k)) ∧ Below w8.heap.size w8 wr) (fun _ t10 _ => bc.length - (intOf t10).toNat)
  case atStart => exact ⟨0, Nat.zero_le _, rfl, Own.nil _ _ _ _ _, Below.refl _ _⟩
  case round =>
    obtain ⟨k, hk, rfl, ho, hB⟩ := hrel
    obtain ⟨wo, ewo⟩ : ∃ x, x = wr := ⟨_, rfl⟩
    subst ewo
    have Ho := Lib.hid ho
    have HBo := Lib.hid hB
    have HB6o := Lib.hid (HB8.out.trans (hB.mono (by omega)))
    have HBw := Lib.hid (HW6.out.trans (HB6o.out.mono (by omega)))
    have hzo := hB.size
    have Hbo1 := Lib.hid (Hd1.out.below HB6o.out (by omega))
    have Hbo2 := Lib.hid (Hd2.out.below HB6o.out (by omega))
    have kk0 : (0 : Int) ≤ (k : Int) := by omega
    obtain ⟨po, co, hpo⟩ := Own.slice ho
    have hfl : (restC ac (bc.take k)).length ≤ k := Nat.le_trans (List.length_filter_le _ _) (by rw [List.length_take]; omega)
    clear ho hB
    obtain ⟨c0, c1⟩ := Hbo1.out.cells.c2
    obtain ⟨d0, d1⟩ := Hbo2.out.cells.c2
    simp only [Nat.zero_add] at c1 d1
    by_cases hlt : k < bc.length
    · have kkl : (k : Int) < (bc.length : Int) := by omega
      obtain ⟨b4, o4, rfl, hb4, hst4⟩ := Strs.at (Sl.below Hb.out Strs.loc HBw.out hhb) (by omega) (by omega)
      have G4 := Lib.hid (hst4 k hlt)
      have Hst := Lib.hid (rest_succ ac bc k hlt)
      clear hst4
      generalize bc[k] = s at *
      generalize hX : restC ac (bc.take k) = X at *
      subst hpo
      go_upto_region 10 with fail
      have hS0 : Below wo.heap.size wo wo.drew := (Below.refl _ _).drew
      refine wp_region_held_drew (S := fun w' => Below wo.heap.size wo w') (by kernel_rfl) hS0 (fun hHeld => ?_)
      refine wpAnyH_take (i := 0) (v := .pointer (some ⟨w.heap.size, 0, none⟩)) rfl (by kernel_rfl) (by kernel_rfl) (by kernel_rfl) (fun _ _ _ h => h) (Or.inl ⟨by rfl, ?_⟩) hHeld ?_
      · intro w' hSw; go_simp
      try simp only [Act.put, List.getElem_toArray, List.getElem_cons_succ, List.getElem_cons_zero, List.setIfInBounds_toArray, List.set_cons_zero, List.set_cons_succ]
      refine wpAnyH_take (i := 1) (v := .slice pa ac.length ca) rfl (by kernel_rfl) (by kernel_rfl) (by kernel_rfl) (fun _ _ _ h => h) (Or.inl ⟨by rfl, ?_⟩) hHeld ?_
      · intro w' hSw; obtain ⟨z0, z1⟩ := (Hbo1.out.below hSw (by omega)).cells.c2; simp only [Nat.zero_add] at z1; go_simp
      try simp only [Act.put, List.getElem_toArray, List.getElem_cons_succ, List.getElem_cons_zero, List.setIfInBounds_toArray, List.set_cons_zero, List.set_cons_succ]
      refine wpAnyH_take (i := 2) (v := .pointer (some ⟨w.heap.size + 1, 0, none⟩)) rfl (by kernel_rfl) (by kernel_rfl) (by kernel_rfl) (fun _ _ _ h => h) (Or.inl ⟨by rfl, ?_⟩) hHeld ?_
      · intro w' hSw; go_simp
      try simp only [Act.put, List.getElem_toArray, List.getElem_cons_succ, List.getElem_cons_zero, List.setIfInBounds_toArray, List.set_cons_zero, List.set_cons_succ]
      refine wpAnyH_take (i := 3) (v := .slice (some ⟨b4, o4, none⟩) bc.length cb) rfl (by kernel_rfl) (by kernel_rfl) (by kernel_rfl) (fun _ _ _ h => h) (Or.inl ⟨by rfl, ?_⟩) hHeld ?_
      · intro w' hSw; obtain ⟨z0, z1⟩ := (Hbo2.out.below hSw (by omega)).cells.c2; simp only [Nat.zero_add] at z1; go_simp
      try simp only [Act.put, List.getElem_toArray, List.getElem_cons_succ, List.getElem_cons_zero, List.setIfInBounds_toArray, List.set_cons_zero, List.set_cons_succ]
      refine wpAnyH_take (i := 4) (v := .int .i64 ((k : Int))) rfl (by kernel_rfl) (by kernel_rfl) (by kernel_rfl) (fun _ _ _ h => h) (Or.inl ⟨by rfl, ?_⟩) hHeld ?_
      · intro w' hSw; go_simp
      try simp only [Act.put, List.getElem_toArray, List.getElem_cons_succ, List.getElem_cons_zero, List.setIfInBounds_toArray, List.set_cons_zero, List.set_cons_succ]
      refine wpAnyH_take (i := 5) (v := .pointer (some ⟨b4, o4 + k, none⟩)) rfl (by kernel_rfl) (by kernel_rfl) (by kernel_rfl) (fun _ _ _ h => h) (Or.inl ⟨by rfl, ?_⟩) hHeld ?_
      · intro w' hSw; go_simp
      try simp only [Act.put, List.getElem_toArray, List.getElem_cons_succ, List.getElem_cons_zero, List.setIfInBounds_toArray, List.set_cons_zero, List.set_cons_succ]
      refine wpAnyH_take (i := 6) (v := .string ⟨s.toArray⟩) rfl (by kernel_rfl) (by kernel_rfl) (by kernel_rfl) (fun _ _ _ h => h) (Or.inl ⟨by rfl, ?_⟩) hHeld ?_
      · intro w' hSw; have kx := G4.out w' hSw; go_simp
      try simp only [Act.put, List.getElem_toArray, List.getElem_cons_succ, List.getElem_cons_zero, List.setIfInBounds_toArray, List.set_cons_zero, List.set_cons_succ]
      refine wpAnyH_ready (rs := [7]) (by kernel_rfl) (by simp) ?_
      refine allCall (f := 91) (args := #[.slice pa ac.length ca, .string ⟨s.toArray⟩]) rfl (by kernel_rfl) (by kernel_rfl) ?_ AllReadyH.nil
      refine place_any lca hca ac s _ wo.drew (Sl.below Ha.out Strs.loc (HBw.out.trans (hS0.mono (by omega))) hha) _ ?_
      refine ⟨_, rfl, hS0, ?_⟩
      try simp only [Act.put, List.getElem_toArray, List.getElem_cons_succ, List.getElem_cons_zero, List.setIfInBounds_toArray, List.set_cons_zero, List.set_cons_succ]
      refine wpAnyH_take (i := 8) (v := .int .i64 (placeI ac s)) rfl (by kernel_rfl) (by kernel_rfl) (by kernel_rfl) (fun _ _ _ h => h) (Or.inl ⟨by rfl, ?_⟩) hHeld ?_
      · intro w' hSw; go_simp
      try simp only [Act.put, List.getElem_toArray, List.getElem_cons_succ, List.getElem_cons_zero, List.setIfInBounds_toArray, List.set_cons_zero, List.set_cons_succ]
      refine wpAnyH_done (by kernel_rfl) ?_ _
      clear hHeld
      have HBd := Lib.hid (HBo.out.drew)
      have Hod := Lib.hid (Ho.out.kept hS0)
      have G4d := G4.out wo.drew hS0
      have hpl := placeI_lt ac s
      by_cases hp : 0 ≤ placeI ac s
      · have hp2 : ¬ placeI ac s < 0 := by omega
        have Hst2 : Hid (restC ac (bc.take (k + 1)) = X) := Lib.hid (by rw [Hst.out, if_pos hp, List.append_nil])
        clear Hst hS0
        generalize placeI ac s = pq at *
        go_wp2_with fail
        go_roundw
        case rel => exact ⟨k + 1, by omega, by go_num, by rw [Hst2.out]; exact Hod.out, HBd.out⟩
        case measure => simp [intOf]; omega
      · have hp2 : placeI ac s < 0 := by omega
        have Hst2 : Hid (restC ac (bc.take (k + 1)) = X ++ [s]) := Lib.hid (by rw [Hst.out, if_neg hp])
        obtain ⟨v3, w3, hr3, ho3, ha3⟩ := appT1 Hod.out s rfl (by omega) (show w8.heap.size ≤ wo.heap.size by omega)
        have HO3 := Lib.hid ho3
        have HB3 := Lib.hid (HBd.out.trans (ha3.below (B := w8.heap.size) (show w8.heap.size ≤ wo.heap.size by omega) (fun q e => (Own.lt Ho.out q e).1)))
        have Hr3 := Lib.hid hr3
        clear ho3 ha3 hr3 Hst hS0 c0 c1 d0 d1
        obtain ⟨c0, c1⟩ := Hbo1.out.drew.cells.c2
        obtain ⟨d0, d1⟩ := Hbo2.out.drew.cells.c2
        simp only [Nat.zero_add] at c1 d1
        generalize placeI ac s = pq at *
        go_wp2_with (at_builtin; refine AtApp.of ?_)
        refine AtApp.go Hr3.out rfl rfl rfl rfl ?_
        go_wp2_with fail
        go_roundw
        case rel => exact ⟨k + 1, by omega, by go_num, by rw [Hst2.out]; exact HO3.out, HB3.out⟩
        case measure => simp [intOf]; omega
    · obtain rfl : k = bc.length := by omega
      have llt : ¬ ((bc.length : Nat) : Int) < (bc.length : Int) := by omega
      have hO := Ho.out
      rw [List.take_length] at hO hpo
      have HO9 := Lib.hid hO
      clear hO hfl
      subst hpo
      have Ho8o := Lib.hid (Ho8.out.kept HBo.out)
      have Hs9 := Lib.hid (OwnT.sl HO9.out)
      obtain ⟨v9, w9, hr9, ho9, ha9⟩ := appTL Ho8o.out Hs9.out (by omega) (show w6.heap.size ≤ wo.heap.size by omega)
      have hB9 : Below w6.heap.size wo w9 := ha9.below (show w6.heap.size ≤ wo.heap.size by omega) (fun q e => (Own.lt Ho8.out q e).1)
      have hz9 : wo.heap.size ≤ w9.heap.size := ha9.grown.size
      have Hs9b : Hid (Strs w8.heap.size wo.heap.size w9 (.slice po (restC ac bc).length co) (restC ac bc)) := Lib.hid (Sl.agree Hs9.out Strs.loc (ha9.agree (Nat.le_refl _) (fun q e => .inl (Own.lt Ho8.out q e).2)))
      have Hc9 : Hid (Strs w6.heap.size w9.heap.size w9 v9 (joinCols ac bc)) := Lib.hid (OwnT.sl ho9)
      have HB69 := Lib.hid (HB6o.out.trans hB9)
      have Hr9 := Lib.hid hr9
      clear hr9 ho9 ha9 hB9 c0 c1 d0 d1
      have HW9 := Lib.hid (HW6.out.trans (HB69.out.mono (by omega)))
      have He1 := Lib.hid (Hd1.out.below HB69.out (by omega))
      have He2 := Lib.hid (Hd2.out.below HB69.out (by omega))
      have He3 := Lib.hid (Hd3.out.below HB69.out hld)
      clear Hs9 Ho8o HO9 Ho Hbo1 Hbo2
      obtain ⟨c0, c1⟩ := (Hd1.out.below HB6o.out (by omega)).cells.c2
      obtain ⟨d0, d1⟩ := (Hd2.out.below HB6o.out (by omega)).cells.c2
      simp only [Nat.zero_add] at c1 d1
      go_wp2_with (at_builtin; refine AtApp.of ?_)
      refine AtApp.go Hr9.out rfl rfl rfl rfl ?_
      obtain ⟨p9, q9, rfl, -, -, -, -⟩ := Hc9.out.form
      clear c0 c1 d0 d1
      go_wp2_with fail
      have hcapJ : la.length * lb.length ≤ 1000000000000 := Nat.mul_le_mul hll hllb
      go_loopw [12, 13] (fun t12 t13 wr => ∃ (i : Nat), i ≤ la.length ∧ t13 = .int .i64 i ∧ LR w9.heap.size 0 wr t12 (joinL ac (la.take i) bc lb) ∧ Below w9.heap.size w9 wr) (fun _ t13 _ => la.length - (intOf t13).toNat)
      case atStart => exact ⟨0, Nat.zero_le _, rfl, LR.nil _ _ _, Below.refl _ _⟩
      case round =>
        obtain ⟨i, hi, rfl, ho, hB⟩ := hrel
        obtain ⟨wi, ewi⟩ : ∃ x, x = wr := ⟨_, rfl⟩
        subst ewi
        have Hoi := Lib.hid ho
        have HBi := Lib.hid hB
        have hzi := hB.size
        have ii0 : (0 : Int) ≤ (i : Int) := by omega
        obtain ⟨pi, ci, hpi⟩ := ho.slice
        have hjl : (joinL ac (la.take i) bc lb).length + lb.length ≤ 2000000000000 := by
          have h1 := joinL_len ac (la.take i) bc lb
          have h2 : (la.take i).length * lb.length ≤ la.length * lb.length := Nat.mul_le_mul_right _ (by rw [List.length_take]; omega)
          omega
        obtain ⟨c0, c1⟩ := (He1.out.below hB (by omega)).cells.c2
        obtain ⟨d0, d1⟩ := (He2.out.below hB (by omega)).cells.c2
        simp only [Nat.zero_add] at c1 d1
        clear ho hB
        by_cases hlt : i < la.length
        · have iil : (i : Int) < (la.length : Int) := by omega
          obtain ⟨b3, o3, rfl, hb3, hrow3⟩ := Rws.at (Sl.below Hla.out rowE_loc HW9.out hhla) (by omega) (by omega)
          obtain ⟨p1, q1, g1, r1⟩ := hrow3 i hlt
          have G1 := Lib.hid g1
          have R1 := Lib.hid r1
          have Hst := Lib.hid (joinL_take ac la bc lb i hlt)
          have Hxl : Hid (la[i].length = ac.length) := Lib.hid (may_len Hm.out _ (List.getElem_mem hlt))
          have Hxs : Hid (∀ a ∈ la[i], a.s.length ≤ 9223372036854775807) := Lib.hid (Hras.out _ (List.getElem_mem hlt))
          clear hrow3 g1 r1
          generalize la[i] = xa at *
          generalize hX : joinL ac (la.take i) bc lb = X at *
          go_wp2_with fail
          go_loopw [12, 14] (fun t12 t14 wk => ∃ (k : Nat), k ≤ lb.length ∧ t14 = .int .i64 k ∧ LR w9.heap.size 0 wk t12 (X ++ (((lb.take k).filter (agreeR ac bc xa)).map fun y => xa ++ pickL y (placesL (restC ac bc) bc))) ∧ Below w9.heap.size w9 wk) (fun _ t14 _ => lb.length - (intOf t14).toNat)
          case atStart => exact ⟨0, Nat.zero_le _, rfl, by simpa using Hoi.out, HBi.out⟩
          case round =>
            obtain ⟨k, hk, rfl, ho, hB⟩ := hrel
            obtain ⟨wk, ewk⟩ : ∃ x, x = wr := ⟨_, rfl⟩
            subst ewk
            have Hok := Lib.hid ho
            have HBk := Lib.hid hB
            have HBwk := Lib.hid (HW9.out.trans (hB.mono (by omega)))
            have hzk := hB.size
            have Hbk1 := Lib.hid (He1.out.below hB (by omega))
            have Hbk2 := Lib.hid (He2.out.below hB (by omega))
            have kk0 : (0 : Int) ≤ (k : Int) := by omega
            obtain ⟨po2, co2, hpo2⟩ := ho.slice
            have hjk : (X ++ (((lb.take k).filter (agreeR ac bc xa)).map fun y => xa ++ pickL y (placesL (restC ac bc) bc))).length ≤ 2000000000000 := by
              rw [List.length_append, List.length_map]
              have h1 := List.length_filter_le (agreeR ac bc xa) (lb.take k)
              rw [List.length_take] at h1
              omega
            clear ho hB c0 c1 d0 d1
            obtain ⟨c0, c1⟩ := Hbk1.out.cells.c2
            obtain ⟨d0, d1⟩ := Hbk2.out.cells.c2
            simp only [Nat.zero_add] at c1 d1
            by_cases hlk : k < lb.length
            · have kkl : (k : Int) < (lb.length : Int) := by omega
              obtain ⟨b4, o4, rfl, hb4, hrow4⟩ := Rws.at (Sl.below Hlb.out rowE_loc HW9.out hhlb) (by omega) (by omega)
              obtain ⟨p2, q2, g2, r2⟩ := hrow4 k hlk
              have G2 := Lib.hid g2
              have R2 := Lib.hid r2
              have Hsk : Hid (((lb.take (k + 1)).filter (agreeR ac bc xa)).map (fun y => xa ++ pickL y (placesL (restC ac bc) bc)) = (((lb.take k).filter (agreeR ac bc xa)).map fun y => xa ++ pickL y (placesL (restC ac bc) bc)) ++ (if agreeR ac bc xa lb[k] = true then [xa ++ pickL lb[k] (placesL (restC ac bc) bc)] else [])) := Lib.hid (by
                rw [List.take_succ_eq_append_getElem hlk, List.filter_append, List.filter_cons, List.filter_nil, List.map_append]
                cases agreeR ac bc xa lb[k] <;> rfl)
              have Hyl : Hid (lb[k].length = bc.length) := Lib.hid (may_len Hmb.out _ (List.getElem_mem hlk))
              have Hys : Hid (∀ a ∈ lb[k], a.s.length ≤ 9223372036854775807) := Lib.hid (Hrbs.out _ (List.getElem_mem hlk))
              have Hmet := Lib.hid (Hag.out xa lb[k])
              clear hrow4 g2 r2
              generalize lb[k] = xb at *
              generalize hXK : X ++ (((lb.take k).filter (agreeR ac bc xa)).map fun y => xa ++ pickL y (placesL (restC ac bc) bc)) = XK at *
              have HXK := Lib.hid hXK
              clear hXK
              subst hpo2
              go_upto_region 21 with fail
              have hS0 : Below wk.heap.size wk wk.drew := (Below.refl _ _).drew
              refine wp_region_held_drew (S := fun w' => Below wk.heap.size wk w') (by kernel_rfl) hS0 (fun hHeld => ?_)
              refine wpAnyH_take (i := 0) (v := .agg #[.slice pa ac.length ca, .slice (some ⟨b3, o3, none⟩) la.length av2]) rfl (by kernel_rfl) (by kernel_rfl) (by kernel_rfl) (fun _ _ _ h => h) (Or.inl ⟨by rfl, ?_⟩) hHeld ?_
              · intro w' hSw; obtain ⟨z0, z1⟩ := (Hbk1.out.below hSw (by omega)).cells.c2; simp only [Nat.zero_add] at z1; go_simp
              try simp only [Act.put, List.getElem_toArray, List.getElem_cons_succ, List.getElem_cons_zero, List.setIfInBounds_toArray, List.set_cons_zero, List.set_cons_succ]
              refine wpAnyH_take (i := 1) (v := .agg #[.slice pb bc.length cb, .slice (some ⟨b4, o4, none⟩) lb.length bv2]) rfl (by kernel_rfl) (by kernel_rfl) (by kernel_rfl) (fun _ _ _ h => h) (Or.inl ⟨by rfl, ?_⟩) hHeld ?_
              · intro w' hSw; obtain ⟨z0, z1⟩ := (Hbk2.out.below hSw (by omega)).cells.c2; simp only [Nat.zero_add] at z1; go_simp
              try simp only [Act.put, List.getElem_toArray, List.getElem_cons_succ, List.getElem_cons_zero, List.setIfInBounds_toArray, List.set_cons_zero, List.set_cons_succ]
              refine wpAnyH_take (i := 2) (v := .pointer (some ⟨w.heap.size, 1, none⟩)) rfl (by kernel_rfl) (by kernel_rfl) (by kernel_rfl) (fun _ _ _ h => h) (Or.inl ⟨by rfl, ?_⟩) hHeld ?_
              · intro w' hSw; go_simp
              try simp only [Act.put, List.getElem_toArray, List.getElem_cons_succ, List.getElem_cons_zero, List.setIfInBounds_toArray, List.set_cons_zero, List.set_cons_succ]
              refine wpAnyH_take (i := 3) (v := .slice (some ⟨b3, o3, none⟩) la.length av2) rfl (by kernel_rfl) (by kernel_rfl) (by kernel_rfl) (fun _ _ _ h => h) (Or.inl ⟨by rfl, ?_⟩) hHeld ?_
              · intro w' hSw; obtain ⟨z0, z1⟩ := (Hbk1.out.below hSw (by omega)).cells.c2; simp only [Nat.zero_add] at z1; go_simp
              try simp only [Act.put, List.getElem_toArray, List.getElem_cons_succ, List.getElem_cons_zero, List.setIfInBounds_toArray, List.set_cons_zero, List.set_cons_succ]
              refine wpAnyH_take (i := 4) (v := .int .i64 ((i : Int))) rfl (by kernel_rfl) (by kernel_rfl) (by kernel_rfl) (fun _ _ _ h => h) (Or.inl ⟨by rfl, ?_⟩) hHeld ?_
              · intro w' hSw; go_simp
              try simp only [Act.put, List.getElem_toArray, List.getElem_cons_succ, List.getElem_cons_zero, List.setIfInBounds_toArray, List.set_cons_zero, List.set_cons_succ]
              refine wpAnyH_take (i := 5) (v := .pointer (some ⟨b3, o3 + i, none⟩)) rfl (by kernel_rfl) (by kernel_rfl) (by kernel_rfl) (fun _ _ _ h => h) (Or.inl ⟨by rfl, ?_⟩) hHeld ?_
              · intro w' hSw; go_simp
              try simp only [Act.put, List.getElem_toArray, List.getElem_cons_succ, List.getElem_cons_zero, List.setIfInBounds_toArray, List.set_cons_zero, List.set_cons_succ]
              refine wpAnyH_take (i := 6) (v := .slice p1 xa.length q1) rfl (by kernel_rfl) (by kernel_rfl) (by kernel_rfl) (fun _ _ _ h => h) (Or.inl ⟨by rfl, ?_⟩) hHeld ?_
              · intro w' hSw; have kx := G1.out w' (HBk.out.trans (hSw.mono (by omega))); go_simp
              try simp only [Act.put, List.getElem_toArray, List.getElem_cons_succ, List.getElem_cons_zero, List.setIfInBounds_toArray, List.set_cons_zero, List.set_cons_succ]
              refine wpAnyH_take (i := 7) (v := .pointer (some ⟨w.heap.size + 1, 1, none⟩)) rfl (by kernel_rfl) (by kernel_rfl) (by kernel_rfl) (fun _ _ _ h => h) (Or.inl ⟨by rfl, ?_⟩) hHeld ?_
              · intro w' hSw; go_simp
              try simp only [Act.put, List.getElem_toArray, List.getElem_cons_succ, List.getElem_cons_zero, List.setIfInBounds_toArray, List.set_cons_zero, List.set_cons_succ]
              refine wpAnyH_take (i := 8) (v := .slice (some ⟨b4, o4, none⟩) lb.length bv2) rfl (by kernel_rfl) (by kernel_rfl) (by kernel_rfl) (fun _ _ _ h => h) (Or.inl ⟨by rfl, ?_⟩) hHeld ?_
              · intro w' hSw; obtain ⟨z0, z1⟩ := (Hbk2.out.below hSw (by omega)).cells.c2; simp only [Nat.zero_add] at z1; go_simp
              try simp only [Act.put, List.getElem_toArray, List.getElem_cons_succ, List.getElem_cons_zero, List.setIfInBounds_toArray, List.set_cons_zero, List.set_cons_succ]
              refine wpAnyH_take (i := 9) (v := .int .i64 ((k : Int))) rfl (by kernel_rfl) (by kernel_rfl) (by kernel_rfl) (fun _ _ _ h => h) (Or.inl ⟨by rfl, ?_⟩) hHeld ?_
              · intro w' hSw; go_simp
              try simp only [Act.put, List.getElem_toArray, List.getElem_cons_succ, List.getElem_cons_zero, List.setIfInBounds_toArray, List.set_cons_zero, List.set_cons_succ]
              refine wpAnyH_take (i := 10) (v := .pointer (some ⟨b4, o4 + k, none⟩)) rfl (by kernel_rfl) (by kernel_rfl) (by kernel_rfl) (fun _ _ _ h => h) (Or.inl ⟨by rfl, ?_⟩) hHeld ?_
              · intro w' hSw; go_simp
              try simp only [Act.put, List.getElem_toArray, List.getElem_cons_succ, List.getElem_cons_zero, List.setIfInBounds_toArray, List.set_cons_zero, List.set_cons_succ]
              refine wpAnyH_take (i := 11) (v := .slice p2 xb.length q2) rfl (by kernel_rfl) (by kernel_rfl) (by kernel_rfl) (fun _ _ _ h => h) (Or.inl ⟨by rfl, ?_⟩) hHeld ?_
              · intro w' hSw; have kx := G2.out w' (HBk.out.trans (hSw.mono (by omega))); go_simp
              try simp only [Act.put, List.getElem_toArray, List.getElem_cons_succ, List.getElem_cons_zero, List.setIfInBounds_toArray, List.set_cons_zero, List.set_cons_succ]
              refine wpAnyH_ready (rs := [12]) (by kernel_rfl) (by simp) ?_
              refine allCall (f := 92) (args := #[.agg #[.slice pa ac.length ca, .slice (some ⟨b3, o3, none⟩) la.length av2], .agg #[.slice pb bc.length cb, .slice (some ⟨b4, o4, none⟩) lb.length bv2], .slice p1 xa.length q1, .slice p2 xb.length q2]) rfl (by kernel_rfl) (by kernel_rfl) ?_ AllReadyH.nil
              have HBd := Lib.hid (HBwk.out.trans (hS0.mono (by omega)))
              have HB9k := Lib.hid (HBk.out.trans (hS0.mono (by omega)))
              refine refAgree_any lca hca lcb hcb lra hra lrb hrb ac bc _ _ _ _ _ _ _ _ _ _ xa xb _ _ wk.drew (Sl.below Ha.out Strs.loc HBd.out hha) (by show hca ≤ wk.heap.size; omega) (Sl.below Hb.out Strs.loc HBd.out hhb) (by show hcb ≤ wk.heap.size; omega) (Sl.below R1.out Row1.loc HB9k.out (by omega)) (by show hra ≤ wk.heap.size; omega) (Sl.below R2.out Row1.loc HB9k.out (by omega)) (by show hrb ≤ wk.heap.size; omega) Hxl.out Hyl.out Hxs.out Hys.out (by omega) (by omega) _ (fun wq hBq => ?_)
              have hBq' : Below wk.heap.size wk wq := hS0.trans hBq
              refine ⟨_, rfl, hBq', ?_⟩
              have HBq := Lib.hid hBq'
              clear hBq' hBq hHeld
              have hHeld := HBq.out
              try simp only [Act.put, List.getElem_toArray, List.getElem_cons_succ, List.getElem_cons_zero, List.setIfInBounds_toArray, List.set_cons_zero, List.set_cons_succ]
              refine wpAnyH_take (i := 13) (v := .bool (refAgreeB ac bc xa xb)) rfl (by kernel_rfl) (by kernel_rfl) (by kernel_rfl) (fun _ _ _ h => h) (Or.inl ⟨by rfl, ?_⟩) hHeld ?_
              · intro w' hSw; go_simp
              try simp only [Act.put, List.getElem_toArray, List.getElem_cons_succ, List.getElem_cons_zero, List.setIfInBounds_toArray, List.set_cons_zero, List.set_cons_succ]
              refine wpAnyH_done (by kernel_rfl) ?_ _
              clear hHeld
              have HBq2 := Lib.hid (HBk.out.trans (HBq.out.mono (by omega)))
              have hzq := HBq.out.size
              rw [Hmet.out]
              cases hbv : agreeR ac bc xa xb
              · have Hsk2 : Hid (X ++ ((lb.take (k + 1)).filter (agreeR ac bc xa)).map (fun y => xa ++ pickL y (placesL (restC ac bc) bc)) = XK) := Lib.hid (by rw [Hsk.out, hbv, ← HXK.out]; simp)
                have Hok2 := Lib.hid (Hok.out.kept HBq.out)
                clear hbv Hsk
                go_wp2_with fail
                go_roundw
                case rel => exact ⟨k + 1, by omega, by go_num, by rw [Hsk2.out]; exact Hok2.out, HBq2.out⟩
                case measure => simp [intOf]; omega
              · have Hsk2 : Hid (X ++ ((lb.take (k + 1)).filter (agreeR ac bc xa)).map (fun y => xa ++ pickL y (placesL (restC ac bc) bc)) = XK ++ [xa ++ pickL xb (placesL (restC ac bc) bc)]) := Lib.hid (by rw [Hsk.out, hbv, ← HXK.out, List.append_assoc]; rfl)
                have hxa : xa.length ≤ 32 := by rw [Hxl.out]; exact hmca
                obtain ⟨vx, wx, hrx, hox, hax⟩ := appVL (Own.nil V.enc 44 3 wq.heap.size wq) (Sl.below R1.out Row1.loc HBq2.out (by omega)) (by simp; omega) (Nat.le_refl _)
                rw [List.nil_append] at hox
                have hBx : Below wq.heap.size wq wx := hax.below (Nat.le_refl _) (fun k e => by cases e)
                have HBx := Lib.hid hBx
                have Hox := Lib.hid hox
                have Hrx := Lib.hid hrx
                have hzx := hBx.size
                have Gk := G1.out wq HBq2.out
                clear hrx hox hax hBx hbv Hsk c0 c1 d0 d1
                obtain ⟨c0, c1⟩ := (He1.out.below HBq2.out (by omega)).cells.c2
                simp only [Nat.zero_add] at c1
                go_wp2_with (at_builtin; refine AtApp.of ?_)
                refine AtApp.go Hrx.out rfl rfl rfl rfl ?_
                obtain ⟨px, qx, rfl⟩ := Own.slice Hox.out
                have HB9x := Lib.hid (HBq2.out.trans (HBx.out.mono (by omega)))
                clear c0 c1 Gk
                go_upto_region 25 with fail
                have HB9d : Hid (Below w9.heap.size w9 wx.drew) := Lib.hid HB9x.out.drew
                have Hoxd : Hid (OwnV wq.heap.size wx.drew (.slice px xa.length qx) xa) := Lib.hid (Own.kept Hox.out ((Below.refl _ _).drew))
                have HBqd : Hid (Below wq.heap.size wq wx.drew) := Lib.hid HBx.out.drew
                have hzd : wq.heap.size ≤ wx.drew.heap.size := hzx
                have hS0 : Only (fun z => (Value.slice px xa.length qx).ownBlock = some z) wx.drew wx.drew := Only.refl _ _
                refine wp_region_held_drew (S := fun w' => Only (fun z => (Value.slice px xa.length qx).ownBlock = some z) wx.drew w') (by kernel_rfl) hS0 (fun hHeld => ?_)
                clear hS0
                generalize wx.drew = wy at *
                have HSB : Hid (∀ w', Only (fun z => (Value.slice px xa.length qx).ownBlock = some z) wy w' → Below w9.heap.size w9 w') := Lib.hid (fun w' h => HB9d.out.trans (h.below (by omega) (fun z hz => by have := (Own.lt Hoxd.out z hz).1; omega)))
                refine wpAnyH_take (i := 0) (v := .slice px xa.length qx) rfl (by kernel_rfl) (by kernel_rfl) (by kernel_rfl) (fun _ _ _ h => h) (Or.inl ⟨by rfl, ?_⟩) hHeld ?_
                · intro w' hSw; go_simp
                try simp only [Act.put, List.getElem_toArray, List.getElem_cons_succ, List.getElem_cons_zero, List.setIfInBounds_toArray, List.set_cons_zero, List.set_cons_succ]
                refine wpAnyH_take (i := 1) (v := .pointer (some ⟨w.heap.size + 1, 1, none⟩)) rfl (by kernel_rfl) (by kernel_rfl) (by kernel_rfl) (fun _ _ _ h => h) (Or.inl ⟨by rfl, ?_⟩) hHeld ?_
                · intro w' hSw; go_simp
                try simp only [Act.put, List.getElem_toArray, List.getElem_cons_succ, List.getElem_cons_zero, List.setIfInBounds_toArray, List.set_cons_zero, List.set_cons_succ]
                refine wpAnyH_take (i := 2) (v := .slice (some ⟨b4, o4, none⟩) lb.length bv2) rfl (by kernel_rfl) (by kernel_rfl) (by kernel_rfl) (fun _ _ _ h => h) (Or.inl ⟨by rfl, ?_⟩) hHeld ?_
                · intro w' hSw; obtain ⟨z0, z1⟩ := (He2.out.below (HSB.out w' hSw) (by omega)).cells.c2; simp only [Nat.zero_add] at z1; go_simp
                try simp only [Act.put, List.getElem_toArray, List.getElem_cons_succ, List.getElem_cons_zero, List.setIfInBounds_toArray, List.set_cons_zero, List.set_cons_succ]
                refine wpAnyH_take (i := 3) (v := .int .i64 ((k : Int))) rfl (by kernel_rfl) (by kernel_rfl) (by kernel_rfl) (fun _ _ _ h => h) (Or.inl ⟨by rfl, ?_⟩) hHeld ?_
                · intro w' hSw; go_simp
                try simp only [Act.put, List.getElem_toArray, List.getElem_cons_succ, List.getElem_cons_zero, List.setIfInBounds_toArray, List.set_cons_zero, List.set_cons_succ]
                refine wpAnyH_take (i := 4) (v := .pointer (some ⟨b4, o4 + k, none⟩)) rfl (by kernel_rfl) (by kernel_rfl) (by kernel_rfl) (fun _ _ _ h => h) (Or.inl ⟨by rfl, ?_⟩) hHeld ?_
                · intro w' hSw; go_simp
                try simp only [Act.put, List.getElem_toArray, List.getElem_cons_succ, List.getElem_cons_zero, List.setIfInBounds_toArray, List.set_cons_zero, List.set_cons_succ]
                refine wpAnyH_take (i := 5) (v := .slice p2 xb.length q2) rfl (by kernel_rfl) (by kernel_rfl) (by kernel_rfl) (fun _ _ _ h => h) (Or.inl ⟨by rfl, ?_⟩) hHeld ?_
                · intro w' hSw; have kx := G2.out w' (HSB.out w' hSw); go_simp
                try simp only [Act.put, List.getElem_toArray, List.getElem_cons_succ, List.getElem_cons_zero, List.setIfInBounds_toArray, List.set_cons_zero, List.set_cons_succ]
                refine wpAnyH_take (i := 6) (v := .slice po (restC ac bc).length co) rfl (by kernel_rfl) (by kernel_rfl) (by kernel_rfl) (fun _ _ _ h => h) (Or.inl ⟨by rfl, ?_⟩) hHeld ?_
                · intro w' hSw; go_simp
                try simp only [Act.put, List.getElem_toArray, List.getElem_cons_succ, List.getElem_cons_zero, List.setIfInBounds_toArray, List.set_cons_zero, List.set_cons_succ]
                refine wpAnyH_take (i := 7) (v := .pointer (some ⟨w.heap.size + 1, 0, none⟩)) rfl (by kernel_rfl) (by kernel_rfl) (by kernel_rfl) (fun _ _ _ h => h) (Or.inl ⟨by rfl, ?_⟩) hHeld ?_
                · intro w' hSw; go_simp
                try simp only [Act.put, List.getElem_toArray, List.getElem_cons_succ, List.getElem_cons_zero, List.setIfInBounds_toArray, List.set_cons_zero, List.set_cons_succ]
                refine wpAnyH_take (i := 8) (v := .slice pb bc.length cb) rfl (by kernel_rfl) (by kernel_rfl) (by kernel_rfl) (fun _ _ _ h => h) (Or.inl ⟨by rfl, ?_⟩) hHeld ?_
                · intro w' hSw; obtain ⟨z0, z1⟩ := (He2.out.below (HSB.out w' hSw) (by omega)).cells.c2; simp only [Nat.zero_add] at z1; go_simp
                try simp only [Act.put, List.getElem_toArray, List.getElem_cons_succ, List.getElem_cons_zero, List.setIfInBounds_toArray, List.set_cons_zero, List.set_cons_succ]
                refine wpAnyH_ready (rs := [9]) (by kernel_rfl) (by simp) ?_
                refine allCall (f := 75) (args := #[.slice p2 xb.length q2, .slice po (restC ac bc).length co, .slice pb bc.length cb]) rfl (by kernel_rfl) (by kernel_rfl) ?_ AllReadyH.nil
                refine refPick_any lrb hrb w8.heap.size wo.heap.size lcb hcb xb (restC ac bc) bc _ _ _ wy (Sl.below R2.out Row1.loc HB9d.out (by omega)) (by omega) (Sl.below Hs9b.out Strs.loc HB9d.out (by omega)) (by omega) (Sl.below Hb.out Strs.loc (HW9.out.trans (HB9d.out.mono (by omega))) hhb) (by omega) (within_rest ac bc) Hyl.out (by omega) _ (fun wz1 vq hBz hoq => ?_)
                obtain ⟨py, hpy⟩ : ∃ py, pickL xb (placesL (restC ac bc) bc) = py := ⟨_, rfl⟩
                have hpyl : py.length ≤ 32 := by rw [← hpy, pick_len]; omega
                rw [hpy] at hoq Hsk2
                have hzz1 := hBz.size
                obtain ⟨vz, wz, hrz, hoz, haz⟩ := appVL (Own.kept Hoxd.out hBz) (OwnV.sl hoq) (by omega) (by omega)
                have hOz : Only (fun z => (Value.slice px xa.length qx).ownBlock = some z) wy wz := (Below.only hBz).trans ⟨haz.grown.os, haz.grown.tape, haz.grown.output, haz.grown.size, fun q hq hA => haz.grown.block q hq (fun e => hA e.symm)⟩
                have HOz := Lib.hid hOz
                have Hoz := Lib.hid hoz
                have Hrz := Lib.hid hrz
                obtain ⟨pz, qz, rfl⟩ := Own.slice hoz
                obtain ⟨pq, qq, rfl⟩ := Own.slice hoq
                have HBqz := Lib.hid (HBqd.out.trans (hOz.below (by omega) (fun z hz => (Own.lt Hoxd.out z hz).1)))
                refine ⟨_, rfl, Below.only hBz, ?_⟩
                clear hHeld hBz hoq hoz haz hrz hOz
                try simp only [Act.put, List.getElem_toArray, List.getElem_cons_succ, List.getElem_cons_zero, List.setIfInBounds_toArray, List.set_cons_zero, List.set_cons_succ]
                refine wpAnyH_ready (rs := [10]) (by kernel_rfl) (by simp) ?_
                refine allVal rfl (by kernel_rfl) (execApp Hrz.out rfl (by kernel_rfl) (by kernel_rfl)) HOz.out ?_ AllReadyH.nil
                have hHeld := HOz.out
                try simp only [Act.put, List.getElem_toArray, List.getElem_cons_succ, List.getElem_cons_zero, List.setIfInBounds_toArray, List.set_cons_zero, List.set_cons_succ]
                refine wpAnyH_take (i := 11) (v := .slice pz (xa ++ py).length qz) rfl (by kernel_rfl) (by kernel_rfl) (by kernel_rfl) (fun _ _ _ h => h) (Or.inl ⟨by rfl, ?_⟩) hHeld ?_
                · intro w' hSw; go_simp
                try simp only [Act.put, List.getElem_toArray, List.getElem_cons_succ, List.getElem_cons_zero, List.setIfInBounds_toArray, List.set_cons_zero, List.set_cons_succ]
                refine wpAnyH_done (by kernel_rfl) ?_ _
                clear hHeld
                have Hoz2 := Lib.hid Hoz.out
                have hBkz : Below wk.heap.size wk wz := HBq.out.trans (HBqz.out.mono (by omega))
                have Hokz := Lib.hid (Hok.out.kept hBkz)
                have hzz := hBkz.size
                obtain ⟨v3, w3, hr3, ho3, ha3⟩ := LR.snoc Hokz.out (Nat.zero_le wq.heap.size) pz qz (xa ++ py) (OwnV.sl Hoz.out) (Nat.le_refl _) (fun q e => .inl (by have := (Hok.out.lt q e).2; omega)) rfl (by omega) (by omega)
                have HO3 := Lib.hid ho3
                have HB3 := Lib.hid ((HBk.out.trans (hBkz.mono (by omega))).trans (ha3.below (B := w9.heap.size) (by omega) (fun q e => (Hok.out.lt q e).1)))
                rw [List.length_append] at hr3
                have Hr3 := Lib.hid hr3
                clear ho3 ha3 hr3 hBkz
                go_wp2_with (at_builtin; refine AtApp.of ?_)
                refine AtApp.go Hr3.out rfl rfl rfl rfl ?_
                go_wp2_with fail
                go_roundw
                case rel => exact ⟨k + 1, by omega, by go_num, by rw [Hsk2.out]; exact HO3.out, HB3.out⟩
                case measure => simp [intOf]; omega
            · obtain rfl : k = lb.length := by omega
              have llk : ¬ ((lb.length : Nat) : Int) < (lb.length : Int) := by omega
              have hO := Hok.out
              rw [List.take_length, ← Hst.out] at hO
              have HO := Lib.hid hO
              clear hO Hok
              go_wp2_with fail
              go_roundw
              case rel => exact ⟨i + 1, by omega, by go_num, HO.out, HBk.out⟩
              case measure => simp [intOf]; omega
        · obtain rfl : i = la.length := by omega
          have llt : ¬ ((la.length : Nat) : Int) < (la.length : Int) := by omega
          have hO := Hoi.out
          rw [List.take_length] at hO hpi
          have HO := Lib.hid hO
          clear hO
          have hll2 : (joinL ac la bc lb).length ≤ 1000000000000 := Nat.le_trans (joinL_len ac la bc lb) hcapJ
          have HBm := Lib.hid (HB69.out.trans (HBi.out.mono (by omega)))
          have HBwm := Lib.hid (HW9.out.trans (HBi.out.mono (by omega)))
          subst hpi
          go_wp2_with fail
          obtain ⟨wm, ewm⟩ : ∃ x, x = wi := ⟨_, rfl⟩
          subst ewm
          refine refMadeP_any 0 wm.heap.size w6.heap.size w9.heap.size (joinCols ac bc) _ _ (joinL ac la bc lb) _ wm (Sl.below Hc9.out Strs.loc HBi.out (Nat.le_refl _)) (by omega) (HO.out.rws (Nat.zero_le _)) (Nat.le_refl _) hll2 (fun x hx => by
            obtain ⟨a, ha, hx⟩ := List.mem_flatMap.1 hx
            obtain ⟨y, hy, rfl⟩ := List.mem_map.1 hx
            rw [List.length_append, pick_len, may_len Hm.out a ha]; omega) (fun x hx => by
            obtain ⟨a, ha, hx⟩ := List.mem_flatMap.1 hx
            obtain ⟨y, hy, rfl⟩ := List.mem_map.1 hx
            intro z hz
            rcases List.mem_append.1 hz with hz | hz
            · exact Hras.out a ha z hz
            · exact pick_str (Hrbs.out y (List.mem_filter.1 hy).1) z hz) _ (fun w7 cv7 lv7 hB7 hT7 hO7 => ?_)
          generalize hE : madeErr (joinCols ac bc) (joinL ac la bc lb) = err at *
          generalize okL err (joinCols ac bc) = oc at *
          generalize okL err (relCanon (joinL ac la bc lb)) = ol at *
          obtain ⟨p7, q7, rfl, -, -, -, -⟩ := hT7.form
          obtain ⟨p8, q8, rfl, -, -, -, -⟩ := hO7.form
          have hzm := HBm.out.size
          have hB67 : Below w6.heap.size w6 w7 := HBm.out.trans (hB7.mono hzm)
          have hb7 := Hd3.out.below hB67 hld
          obtain ⟨e0, e1⟩ := hb7.cells.c2
          have f0 := hb7.free 0
          have f1 := hb7.free 1
          simp only [Nat.zero_add] at e1
          obtain ⟨t1, t2, t3⟩ := refTail (pc := p7) (pr := p8) (nc := oc.length) (nr := ol.length) (qc := q7) (qr := q8) hb7
          have hsz7 : w6.heap.size ≤ w7.heap.size := hB67.size
          have hwm : wm.heap.size ≤ w7.heap.size := hB7.size
          have hr := HR.out _ _ _ (((HW6.out.trans (hB67.mono (by omega))).setCell (p := ⟨w.heap.size + 1 + 1, 0, none⟩) (by show w.heap.size ≤ w.heap.size + 1 + 1; omega) (.slice p7 oc.length q7)).setCell (p := ⟨w.heap.size + 1 + 1, 1, none⟩) (by show w.heap.size ≤ w.heap.size + 1 + 1; omega) (.slice p8 ol.length q8)) (Sl.mono (Sl.agree hT7 Strs.loc (t2 _ _ (.inl (by omega)))) Strs.loc (by omega) (by have h1 : w9.heap.size ≤ wm.heap.size := hzi; have h2 : wm.heap.size ≤ w7.heap.size := hwm; have h3 := t3; omega)) (Sl.mono (Sl.agree hO7 rowE_loc (t2 _ _ (.inl (by omega)))) rowE_loc (by omega) (Nat.le_of_eq t3.symm))
          have Hr := Lib.hid hr
          have Ht := Lib.hid t1
          clear hr t1 t2 t3 hb7 hB67 hB7 hT7 hO7
          go_wp2_with fail
          exact ret_cell_tmp rfl rfl Ht.out rfl rfl Hr.out

end Go.Proofs.YtmconajkgjfplaaGreat
end

/- The document's Groups. (Printed by fldk.py.) -/
section
set_option linter.unusedVariables false
set_option linter.unusedSimpArgs false
namespace Go.Proofs.YtmconajkgjfplaaGreat
open Go.RowKit
set_option linter.unusedVariables false
set_option linter.unusedSimpArgs false
attribute [local go_sem ↓] Go.wp_at_zero Go.wp_at_succ
theorem QLs.lower {lo lo' : Nat} {W : World} {v : Value} {cols : List S} {rs : List (List (List V))} (h : QLs lo W v cols rs) (hl : lo' ≤ lo) : QLs lo' W v cols rs := by
  obtain ⟨hs, bs, h1, h2, ho, hp, hi⟩ := h
  exact ⟨hs, bs, h1, h2, Own.lower ho hl, hp, fun i q1 q2 q3 => ⟨Nat.le_trans hl (hi i q1 q2 q3).1, (hi i q1 q2 q3).2⟩⟩
set_option maxRecDepth 100000 in
set_option maxHeartbeats 8000000 in
theorem refGroups_any (lo hi lc hc l2 h2 : Nat) (rc : List S) (ac : Option Addr) (cc : Nat) (l : List (List V)) (lv : Value) (cols : List S) (cv : Value) (w : World) (hrc : Strs lc hc w (.slice ac rc.length cc) rc) (hhc : hc ≤ w.heap.size) (hv : Rws lo hi w lv l) (hhi : hi ≤ w.heap.size) (hcols : Strs l2 h2 w cv cols) (hh2 : h2 ≤ w.heap.size) (hrs : ∀ x ∈ l, ∀ a ∈ x, a.s.length ≤ 9223372036854775807) (R : Ending → World → Prop)
    (hR : ∀ w' v', Below w.heap.size w w' → QLs w.heap.size w' v' rc (okL (grpErr rc l cols) (grpL rc l cols)) → R (.returned (.tuple #[v', .int .i64 (grpErr rc l cols)])) w') :
    Calls Tryz.prog 43 #[.agg #[.slice ac rc.length cc, lv], cv] w R := by
  have HR := Lib.hid hR
  have Hv := Lib.hid hv
  have Hrc := Lib.hid hrc
  have Ho := Lib.hid hcols
  have Hrs := Lib.hid hrs
  obtain ⟨av, av2, rfl, -, -, -, -⟩ := hv.form
  obtain ⟨ak, ck, rfl, -, -, -, -⟩ := hcols.form
  have hol := hcols.len
  have hrl := hrc.len
  clear hR hv hrc hcols hrs
  have hB1 := alloc_below w (.cells #[.slice ac rc.length cc, .slice av l.length av2] 50)
  have hb1 := Blk.new w [.slice ac rc.length cc, .slice av l.length av2] 50 rfl
  go_enter Tryz.func43, Tryz.ntmps43
  go_upto_region 1 with fail
  generalize w.alloc (.cells #[.slice ac rc.length cc, .slice av l.length av2] 50) = w1 at *
  have HB1 := Lib.hid hB1
  have Hb1 := Lib.hid hb1
  have hz1 := hB1.size
  have hl1 := hb1.lt
  obtain ⟨c0, c1⟩ := hb1.cells.c2
  simp only [Nat.zero_add] at c1
  clear hB1 hb1
  go_wp2_with fail
  refine right16_any lo hi lc hc l2 h2 rc _ _ l _ cols _ w1 (Sl.below Hrc.out Strs.loc HB1.out hhc) (by omega) (Sl.below Hv.out rowE_loc HB1.out hhi) (by omega) (Sl.below Ho.out Strs.loc HB1.out hh2) (by omega) Hrs.out _ (fun w2 hB2 => ?_)
  have HB2 := Lib.hid (HB1.out.trans (hB2.mono hz1))
  have Hb2 := Lib.hid (Hb1.out.below hB2 hl1)
  have hz2 := hB2.size
  clear hB2 c0 c1
  cases hri : rightB rc l cols
  · have he : grpErr rc l cols = 2 := by unfold grpErr; rw [hri]; rfl
    have hr := HR.out w2 (.slice none 0 0) HB2.out (by rw [he, okL_no (by omega)]; exact QLs.nil _ _ _)
    rw [he] at hr
    clear he
    go_wp2_with fail
    first | exact hr | exact fin hr rfl
  have he : grpErr rc l cols = 0 := by unfold grpErr; rw [hri]; rfl
  rw [he, okL_ok rfl] at HR
  have Hri := Lib.hid hri
  have h3 := hri
  unfold rightB at h3
  simp only [Bool.and_eq_true] at h3
  obtain ⟨⟨hm, hw⟩, hon⟩ := h3
  have hml := (may_many hm).1
  have hcl := once_len hon
  have hpe : projErr rc l cols = 0 := by
    unfold projErr
    rw [hm, hw, hon]
    simp only [Bool.and_self, if_true]
    refine madeErr_ok hcl (Nat.le_trans (canon_len_le _) ?_)
    rw [List.length_map]
    exact hml
  have Hpe := Lib.hid hpe
  have Hm := Lib.hid hm
  have Hw := Lib.hid hw
  have Hon := Lib.hid hon
  obtain ⟨ks, hks⟩ : ∃ ks, ks = keysL (grpK rc cols) l := ⟨_, rfl⟩
  have Hks := Lib.hid hks
  have hkl : ks.length ≤ 100000 := by
    rw [hks]
    have : (keysL (grpK rc cols) l).length ≤ (l.map (grpK rc cols)).length := canon_len_le _
    rw [List.length_map] at this
    omega
  clear he hri hpe hm hw hon hks
  obtain ⟨c0, c1⟩ := Hb2.out.cells.c2
  simp only [Nat.zero_add] at c1
  go_wp2_with fail
  refine refProject_any lo hi lc hc l2 h2 rc _ _ l _ cols _ w2 (Sl.below Hrc.out Strs.loc HB2.out hhc) (by omega) (Sl.below Hv.out rowE_loc HB2.out hhi) (by omega) (Sl.below Ho.out Strs.loc HB2.out hh2) (by omega) (by omega) (by omega) Hrs.out _ (fun w3 cv3 lv3 hB3 hT3 hR3 => ?_)
  rw [Hpe.out, okL_ok rfl] at hT3 hR3
  rw [Hpe.out]
  have hR3' : Rws w2.heap.size w3.heap.size w3 lv3 ks := by rw [Hks.out]; exact hR3
  have HR3 := Lib.hid hR3'
  have HT3 := Lib.hid hT3
  obtain ⟨pc3, qc3, rfl, -, -, -, -⟩ := hT3.form
  obtain ⟨pl3, ql3, rfl, -, -, -, -⟩ := hR3'.form
  have hz3 := hB3.size
  have HB3 := Lib.hid (HB2.out.trans (hB3.mono (by omega)))
  have Hb3 := Lib.hid (Hb2.out.below hB3 (by omega))
  clear hB3 hT3 hR3 hR3' c0 c1
  go_upto_region 5 with fail
  have hBa := alloc_below w3 (.cells #[.slice pc3 cols.length qc3, .slice pl3 ks.length ql3] 50)
  have hba := Blk.new w3 [.slice pc3 cols.length qc3, .slice pl3 ks.length ql3] 50 rfl
  generalize w3.alloc (.cells #[.slice pc3 cols.length qc3, .slice pl3 ks.length ql3] 50) = w4 at *
  have hz4 := hBa.size
  have hl4 := hba.lt
  have HB4 := Lib.hid (HB3.out.trans (hBa.mono (by omega)))
  have Hb4 := Lib.hid (Hb3.out.below hBa (by omega))
  have Hk4 := Lib.hid hba
  have HR4 := Lib.hid (Sl.below HR3.out rowE_loc hBa (Nat.le_refl _))
  have Hkl : Hid (∀ x ∈ ks, x.length = cols.length) := Lib.hid (by rw [Hks.out]; exact keys_len)
  have Hksl : Hid (∀ x ∈ ks, ∀ a ∈ x, a.s.length ≤ 9223372036854775807) := Lib.hid (fun x hx a ha => by
    rw [Hks.out] at hx
    obtain ⟨y, hy, rfl⟩ := List.mem_map.1 ((canon_mem cmpR_cmp _ _).1 hx)
    obtain ⟨k, hk, rfl⟩ := List.mem_map.1 ha
    have hat := places_ok Hw.out k hk
    rw [← may_len Hm.out y hy] at hat
    rw [getDS y _ k.toNat (by omega)]
    exact Hrs.out y hy _ (List.getElem_mem _))
  clear hBa hba
  go_wp2_with fail
  go_loopw [9, 10] (fun t9 t10 wr => ∃ (k : Nat), k ≤ ks.length ∧ t10 = .int .i64 k ∧ QLs w4.heap.size wr t9 rc ((ks.take k).map (withK (grpK rc cols) l)) ∧ Below w4.heap.size w4 wr) (fun _ t10 _ => ks.length - (intOf t10).toNat)
  case atStart => exact ⟨0, Nat.zero_le _, rfl, by simpa using QLs.nil _ _ _, Below.refl _ _⟩
  case round =>
    obtain ⟨k, hk, rfl, hQ, hB⟩ := hrel
    obtain ⟨wo, ewo⟩ : ∃ x, x = wr := ⟨_, rfl⟩
    subst ewo
    have HQ := Lib.hid hQ
    have HB := Lib.hid hB
    have hz := hB.size
    have kk0 : (0 : Int) ≤ (k : Int) := by omega
    obtain ⟨po, qo, hpo⟩ := QLs.slice hQ
    have hbk := Hk4.out.below hB hl4
    obtain ⟨c0, c1⟩ := hbk.cells.c2
    simp only [Nat.zero_add] at c1
    clear hQ hB hbk
    by_cases hlt : k < ks.length
    · have kkl : (k : Int) < (ks.length : Int) := by omega
      obtain ⟨j, hj⟩ : ∃ j, j = k + 1 := ⟨_, rfl⟩
      have ej : IntKind.i64.wrap ((k : Int) + 1) = (j : Int) := (wrapOk (by omega) (by omega)).trans (by omega)
      have jj0 : (0 : Int) ≤ (j : Int) := by omega
      have HR5 := Lib.hid (Sl.below HR4.out rowE_loc HB.out (by omega))
      obtain ⟨vg, hvg, hrg⟩ := Sl.within HR5.out 23 Tryz.underlying23 size_RowH k j (by omega) (by omega)
      rw [show (ks.drop k).take (j - k) = [ks[k]] by rw [hj, show k + 1 - k = 1 by omega, ← List.getElem_cons_drop (h := hlt)]; rfl] at hrg
      obtain ⟨pg, qg, rfl, -, -, -, -⟩ := hrg.form
      have Hrg := Lib.hid hrg
      have Hj := Lib.hid hj
      clear hrg hj
      subst hpo
      have hnk2 : ((ks.take k).map (withK (grpK rc cols) l)).length ≤ 1000000 := by rw [List.length_map, List.length_take]; omega
      have Hnk2 := Lib.hid hnk2
      clear hnk2
      generalize hnk : ((ks.take k).map (withK (grpK rc cols) l)).length = nk at *
      have Hnk := Lib.hid hnk
      clear hnk
      go_upto_region 10 with fail
      have hBb := alloc_below wo (.cells #[.slice ak cols.length ck, .slice pg 1 qg] 50)
      have hbb := Blk.new wo [.slice ak cols.length ck, .slice pg 1 qg] 50 rfl
      generalize wo.alloc (.cells #[.slice ak cols.length ck, .slice pg 1 qg] 50) = wp at *
      have hzp := hBb.size
      have HBp := Lib.hid (HB.out.trans (hBb.mono hz))
      have HBw := Lib.hid (HB4.out.trans (HBp.out.mono HB4.out.size))
      have HBop := Lib.hid hBb
      have hz4w := HB4.out.size
      obtain ⟨e0, e1⟩ := (Hb4.out.below HBp.out (by omega)).cells.c2
      obtain ⟨d0, d1⟩ := hbb.cells.c2
      simp only [Nat.zero_add] at e1 d1
      clear hBb hbb c0 c1
      go_wp2_with fail
      refine refJoin_any lc hc lo hi l2 h2 w2.heap.size w3.heap.size rc cols _ _ _ _ l [ks[k]] _ _ wp (Sl.below Hrc.out Strs.loc HBw.out hhc) (by omega) (Sl.below Hv.out rowE_loc HBw.out hhi) (by omega) (Sl.below Ho.out Strs.loc HBw.out hh2) (by omega) (Sl.below Hrg.out rowE_loc HBop.out (by omega)) (by omega) Hrs.out (fun x hx => Hksl.out x (by rw [List.mem_singleton.1 hx]; exact List.getElem_mem hlt)) (by omega) (by simp) _ (fun w7 cv7 lv7 hB7 hT7 hR7 => ?_)
      have hkk : ks[k].length = cols.length := Hkl.out _ (List.getElem_mem hlt)
      rw [group_err Hri.out hkk, okL_ok rfl, group_cols Hw.out] at hT7
      rw [group_err Hri.out hkk, okL_ok rfl, group_join Hw.out Hon.out hkk, withK_up Hm.out] at hR7
      rw [group_err Hri.out hkk]
      have Hst : Hid ((ks.take (k + 1)).map (withK (grpK rc cols) l) = (ks.take k).map (withK (grpK rc cols) l) ++ [withK (grpK rc cols) l ks[k]]) := Lib.hid (by rw [List.take_succ_eq_append_getElem hlt, List.map_append]; rfl)
      clear hkk
      generalize withK (grpK rc cols) l ks[k] = tk at *
      obtain ⟨pf, qf, rfl, -, -, -, -⟩ := hT7.form
      obtain ⟨ph, qh, rfl, -, -, -, -⟩ := hR7.form
      have hz7 := hB7.size
      have hBx := alloc_below w7 (.cells #[.slice pf rc.length qf, .slice ph tk.length qh] 50)
      have hs1 : (w7.alloc (.cells #[.slice pf rc.length qf, .slice ph tk.length qh] 50)).heap.size = w7.heap.size + 1 := by simp
      have hBox := HBop.out.trans (hB7.mono (by omega))
      have hB9 := hBox.trans (hBx.mono (by omega))
      obtain ⟨v9, w9, hr9, hs9, ha9⟩ := QLs.snoc HQ.out hz hB9 ⟨⟨pf, rc.length, qf⟩, ⟨ph, tk.length, qh⟩⟩ (Sl.mono (Sl.below hT7 Strs.loc hBx (Nat.le_refl _)) Strs.loc hzp (by omega)) (Sl.mono (Sl.below hR7 rowE_loc hBx (Nat.le_refl _)) rowE_loc hzp (by omega)) (by rw [Hnk.out]; have := Hnk2.out; omega) hs1.symm
      have HQ9 := Lib.hid hs9
      have HB9 := Lib.hid ((HB.out.trans (hB9.mono hz)).trans (ha9.below (B := w4.heap.size) (by have := hB9.size; omega) (fun q e => (QLs.lt HQ.out q e).1)))
      clear hs9 ha9 hB9 hBox hBx hT7 hR7 e0 e1 d0 d1
      go_wp2_with (at_builtin; refine AtApp.of ?_)
      refine AtApp.go hr9 rfl rfl rfl rfl ?_
      go_wp2_with fail
      go_roundw
      case rel => exact ⟨j, by have := Hj.out; omega, by first | rfl | go_num, by rw [Hj.out, Hst.out]; exact HQ9.out, HB9.out⟩
      case measure => have := Hj.out; simp [intOf]; omega
    · obtain rfl : k = ks.length := by omega
      have hQ := HQ.out
      rw [List.take_length, Hks.out] at hQ
      have hr := HR.out wo _ (HB4.out.trans (HB.out.mono HB4.out.size)) (QLs.lower hQ HB4.out.size)
      clear hQ
      subst hpo
      go_wp2_with fail
      first | exact hr | exact fin hr rfl
end Go.Proofs.YtmconajkgjfplaaGreat
end

/- The law of layer 16: a relation's own copy, and the document's relation of the program's. (Printed by r16.py.) -/
section
set_option linter.unusedVariables false
set_option linter.unusedSimpArgs false
namespace Go.Proofs.YtmconajkgjfplaaGreat
open Go.RowKit
set_option linter.unusedVariables false
set_option linter.unusedSimpArgs false
set_option maxRecDepth 100000 in
set_option maxHeartbeats 4000000 in
theorem lawOwn16_any (lo hi lc hc : Nat) (cols : List S) (ac : Option Addr) (cc : Nat) (l : List (List V)) (lv : Value) (w : World) (hcols : Strs lc hc w (.slice ac cols.length cc) cols) (hhc : hc ≤ w.heap.size) (hv : Rws lo hi w lv l) (hhi : hi ≤ w.heap.size) (hlen : l.length ≤ 1000000000000) (hcl : cols.length ≤ 1000000000000) (hrl : ∀ x ∈ l, x.length ≤ 1000000000000) (R : Ending → World → Prop)
    (hR : ∀ w' cv2 lv2, Below w.heap.size w w' → Strs w.heap.size w'.heap.size w' cv2 cols → Rws w.heap.size w'.heap.size w' lv2 l → R (.returned (.agg #[cv2, lv2])) w') :
    Calls Tryz.prog 15 #[.agg #[.slice ac cols.length cc, lv]] w R := by
  have HR := Lib.hid hR
  have Hv := Lib.hid hv
  have Hc := Lib.hid hcols
  have Hrl := Lib.hid hrl
  obtain ⟨av, cv, rfl, -, -, -, -⟩ := hv.form
  clear hR hv hcols hrl
  obtain ⟨q, hq⟩ : ∃ q, q = cols.length := ⟨_, rfl⟩
  rw [← hq]
  have Hq := Lib.hid hq
  clear hq
  go_enter Tryz.func15, Tryz.ntmps15
  go_upto_region 2 with fail
  obtain ⟨w0, hw0⟩ : ∃ w0, w0 = ((w.alloc (.cells #[.slice ac q cc, .slice av l.length cv] 25)).alloc (.cells #[.slice none 0 0, .slice none 0 0] 25)).alloc (.cells #[.slice none 0 0, .slice none 0 0] 25) := ⟨_, rfl⟩
  have s1 : (w.alloc (.cells #[.slice ac q cc, .slice av l.length cv] 25)).heap.size = w.heap.size + 1 := Array.size_push _
  have s2 : ((w.alloc (.cells #[.slice ac q cc, .slice av l.length cv] 25)).alloc (.cells #[.slice none 0 0, .slice none 0 0] 25)).heap.size = w.heap.size + 1 + 1 := (Array.size_push _).trans (by rw [s1])
  have hB0 : Below w.heap.size w w0 := by
    rw [hw0]
    exact ((alloc_below w _).alloc (by rw [s1]; omega) _).alloc (by rw [s2]; omega) _
  have hz0 : w.heap.size + 1 + 1 < w0.heap.size := by
    rw [hw0]
    show _ < (Array.push _ _).size
    rw [Array.size_push, s2]; omega
  have hb0 : Blk w0 w.heap.size [.slice ac q cc, .slice av l.length cv] 25 := by
    rw [hw0]
    exact ((Blk.new w [.slice ac q cc, .slice av l.length cv] _ rfl).alloc _).alloc _
  have hb1 : Blk w0 (w.heap.size + 1) [.slice none 0 0, .slice none 0 0] 25 := by
    rw [hw0]
    exact (Blk.new _ [.slice none 0 0, .slice none 0 0] _ s1.symm).alloc _
  have hb2 : Blk w0 (w.heap.size + 1 + 1) [.slice none 0 0, .slice none 0 0] 25 := by
    rw [hw0]
    exact Blk.new _ [.slice none 0 0, .slice none 0 0] _ s2.symm
  rw [← hw0]
  clear hw0 s1 s2
  have Hb0 := Lib.hid hb0
  have Hb1 := Lib.hid hb1
  have Hb2 := Lib.hid hb2
  have HB0 := Lib.hid hB0
  obtain ⟨d0, d1⟩ := hb0.cells.c2
  simp only [Nat.zero_add] at d1
  obtain ⟨e0, e1⟩ := hb2.cells.c2
  simp only [Nat.zero_add] at e1
  have f0 := hb2.free 0
  have f1 := hb2.free 1
  obtain ⟨v1, w1, hr1, ho1, ha1⟩ := appTL (lo := w0.heap.size) (Own.nil _ _ _ _ w0) (Sl.below Hc.out Strs.loc hB0 hhc) (by simp only [List.length_nil]; omega) (Nat.le_refl _)
  rw [List.nil_append] at ho1
  have hB1 : Below w0.heap.size w0 w1 := ha1.below (Nat.le_refl _) (fun k e => by cases e)
  have hc2 := Hb2.out.below hB1 hz0
  obtain ⟨p1, c1, ev1⟩ := Own.slice ho1
  rw [← Hq.out] at ev1
  subst ev1
  have Ho1 := Lib.hid ho1
  have HB1 := Lib.hid hB1
  have Hc2 := Lib.hid hc2
  have g0 := hc2.free 0
  obtain ⟨j0, j1⟩ := hc2.cells.c2
  simp only [Nat.zero_add] at j1
  rw [← Hq.out] at hr1
  have h2b : Blk (w1.setCell ⟨w.heap.size + 1 + 1, 0, none⟩ (.slice p1 q c1)) (w.heap.size + 1 + 1) [.slice p1 q c1, .slice none 0 0] 25 := hc2.set 0 _
  have h2o : OwnT w0.heap.size (w1.setCell ⟨w.heap.size + 1 + 1, 0, none⟩ (.slice p1 q c1)) (.slice p1 q c1) cols := Own.setOther ho1 (fun e => by
    have := (Own.lt ho1 _ e).1
    simp only at this
    omega) _
  have h2B : Below (w.heap.size + 1 + 1) w0 (w1.setCell ⟨w.heap.size + 1 + 1, 0, none⟩ (.slice p1 q c1)) := (hB1.mono (by show w.heap.size + 1 + 1 ≤ _; omega)).setCell (p := ⟨w.heap.size + 1 + 1, 0, none⟩) (Nat.le_refl _) _
  have H2b := Lib.hid h2b
  have H2o := Lib.hid h2o
  have H2B := Lib.hid h2B
  have hb0c := Hb0.out.below h2B (by omega)
  obtain ⟨d0', d1'⟩ := hb0c.cells.c2
  simp only [Nat.zero_add] at d1'
  clear hb0 hb1 hb2 hB0 ho1 ha1 hB1 hc2 h2b h2o h2B hb0c
  go_wp2_with (at_builtin; refine AtApp.of ?_)
  refine AtApp.go hr1 rfl rfl rfl rfl ?_
  go_upto_region 3 with fail
  generalize w1.setCell ⟨w.heap.size + 1 + 1, 0, none⟩ (.slice p1 q c1) = w2 at *
  clear d0 d1 e0 e1 f0 f1 g0 hr1 j0 j1
  go_wp2_with fail
  go_loopw [15] (fun t15 wr => ∃ (k : Nat) (hs : List Value) (vk : Value), k ≤ l.length ∧ t15 = .int .i64 k ∧ Blk wr (w.heap.size + 1 + 1) [.slice p1 q c1, vk] 25 ∧ OwnT w0.heap.size wr (.slice p1 q c1) cols ∧ OwnR w0.heap.size wr vk hs (l.take k) ∧ Below (w.heap.size + 1 + 1) w0 wr ∧ w0.heap.size ≤ wr.heap.size) (fun t15 _ => l.length - (intOf t15).toNat)
  case atStart => exact ⟨0, [], _, Nat.zero_le _, rfl, H2b.out, H2o.out, OwnR.nil _ _, H2B.out, H2B.out.size⟩
  case round =>
    obtain ⟨k, hs, vk, hk, rfl, hbk, hok, hrk, hB, hz⟩ := hrel
    obtain ⟨wo, ewo⟩ : ∃ x, x = wr := ⟨_, rfl⟩
    subst ewo
    have Hbk := Lib.hid hbk
    have Hok := Lib.hid hok
    have Hrk := Lib.hid hrk
    have HB := Lib.hid hB
    have kk0 : (0 : Int) ≤ (k : Int) := by omega
    have HBw := Lib.hid (HB0.out.trans (hB.mono (by omega)))
    obtain ⟨po, co, epo⟩ := Own.slice hrk.own
    subst epo
    have hb0c := Hb0.out.below hB (by omega)
    have hb2l := hbk.lt
    obtain ⟨d0, d1⟩ := hb0c.cells.c2
    simp only [Nat.zero_add] at d1
    clear hbk hok hrk hB hb0c
    by_cases hlt : k < l.length
    · obtain ⟨ao', cap', e', -, -, -, hc⟩ := (Sl.below Hv.out rowE_loc HBw.out hhi).form
      injection e' with e1 e2 e3
      subst e1 e3
      obtain ⟨b, off, rfl, hb1, hb2, hcc⟩ := hc k hlt
      obtain ⟨cs, _, hcs, sv, rfl, hsv⟩ := hcc k hlt
      have g0 := hcs.c1
      rw [Nat.mul_one] at g0
      have kkl : (k : Int) < (l.length : Int) := by omega
      have hsl : hs.length ≤ k := by
        rw [Hrk.out.len, List.length_take]; omega
      have Hst : Hid (l.take (k + 1) = l.take k ++ [l[k]]) := Lib.hid (List.take_succ_eq_append_getElem hlt)
      have hxl := Hrl.out _ (List.getElem_mem hlt)
      have hslv := hsv
      obtain ⟨ay, cy, rfl, -, -, -, -⟩ := hslv.form
      clear hcc hcs hc hslv
      generalize l[k] = x at *
      obtain ⟨v2, w2', hr2, ho2, ha2⟩ := appVL (lo := wo.heap.size) (Own.nil _ _ _ _ wo) hsv (by simp only [List.length_nil]; omega) (Nat.le_refl _)
      rw [List.nil_append] at ho2
      have hB2 : Below wo.heap.size wo w2' := ha2.below (Nat.le_refl _) (fun k e => by cases e)
      have hzw2 := hB2.size
      have hbk2 := Hbk.out.below hB2 hb2l
      have hrk2 := Hrk.out.kept hB2
      have hok2 := Own.kept Hok.out hB2
      obtain ⟨p2, c2, ev2⟩ := Own.slice ho2
      subst ev2
      obtain ⟨v3, w3, hr3, ho3, ha3⟩ := appH1 hrk2.own p2 x.length c2 rfl (by omega) (by omega)
      have hya : ∀ q, (Value.slice p2 x.length c2).ownBlock = some q → (Value.slice po hs.length co).ownBlock ≠ some q := fun q hq2 e => by
        have h1 := (Own.lt ho2 q hq2).1
        have h2 := (Own.lt Hrk.out.own q e).2
        omega
      have hrk3 := hrk2.snoc (Own.lower ho2 hz) hya ho3 ha3
      rw [← Hst.out] at hrk3
      have hbk3 := ha3.blk hbk2 (Own.ne_blk hrk2.own hbk2 (by decide))
      have hok3 : OwnT w0.heap.size w3 (.slice p1 q c1) cols := Own.same hok2 (fun g hg => ha3.grown.block g (Own.lt hok2 g hg).2 (fun e => Own.apartT hok2 hrk2.own (by decide) hg e.symm))
      have hB3 : Below (w.heap.size + 1 + 1) w0 w3 := (HB.out.trans (hB2.mono (by omega))).trans (ha3.below (by omega) (fun q e => by have := (Own.lt hrk2.own q e).1; omega))
      have hzw3 := hB3.size
      obtain ⟨p3, c3, ev3⟩ := Own.slice ho3
      have el : (hs ++ [Value.slice p2 x.length c2]).length = hs.length + 1 := by simp
      rw [el] at ev3
      subst ev3
      have f1 := hbk3.free 1
      obtain ⟨i0, i1⟩ := hbk2.cells.c2
      simp only [Nat.zero_add] at i1
      obtain ⟨m0, m1⟩ := hbk3.cells.c2
      simp only [Nat.zero_add] at m1
      have hbk4 : Blk (w3.setCell ⟨w.heap.size + 1 + 1, 1, none⟩ (.slice p3 (hs.length + 1) c3)) (w.heap.size + 1 + 1) [.slice p1 q c1, .slice p3 (hs.length + 1) c3] 25 := hbk3.set 1 _
      have hok4 : OwnT w0.heap.size (w3.setCell ⟨w.heap.size + 1 + 1, 1, none⟩ (.slice p3 (hs.length + 1) c3)) (.slice p1 q c1) cols := Own.setOther hok3 (Own.ne_blk hok3 hbk3 (by decide)) _
      have hrk4 := hrk3.setBlk hbk3 (by decide) (by decide) 1 (.slice p3 (hs.length + 1) c3)
      have hB4 := hB3.setCell (p := ⟨w.heap.size + 1 + 1, 1, none⟩) (Nat.le_refl _) (.slice p3 (hs.length + 1) c3)
      have Hbk4 := Lib.hid hbk4
      have Hok4 := Lib.hid hok4
      have Hrk4 := Lib.hid hrk4
      have HB4 := Lib.hid hB4
      clear ho2 ha2 hB2 hbk2 hrk2 hok2 ho3 ha3 hya hrk3 hbk3 hok3 hB3 hbk4 hok4 hrk4 hB4 hsv
      go_wp2_with (at_builtin; refine AtApp.of ?_)
      refine AtApp.go hr2 rfl rfl rfl rfl ?_
      go_wp2_with (at_builtin; refine AtApp.of ?_)
      refine AtApp.go hr3 rfl rfl rfl rfl ?_
      go_wp2_with fail
      go_roundw
      case rel => exact ⟨k + 1, _, _, by omega, by go_num, Hbk4.out, Hok4.out, Hrk4.out, HB4.out, HB4.out.size⟩
      case measure => simp [intOf]; omega
    · obtain rfl : k = l.length := by omega
      have llt : ¬ ((l.length : Nat) : Int) < (l.length : Int) := by omega
      have hb1 := Hb1.out.below HB.out (by omega)
      have hrk := Hrk.out
      rw [List.take_length] at hrk
      have hsl : hs.length = l.length := hrk.len
      rw [hsl] at hrk
      have hb2c := Hbk.out
      rw [hsl] at hb2c
      obtain ⟨k0, k1⟩ := hb1.cells.c2
      simp only [Nat.zero_add] at k1
      have f0 := hb1.free 0
      have f1 := hb1.free 1
      have Hld := Lib.hid (hb2c.cells.runVar (P := Tryz.prog) (t := 25) (fun _ => by kernel_rfl) (fun _ => by kernel_rfl))
      obtain ⟨i0, i1⟩ := hb2c.cells.c2
      simp only [Nat.zero_add] at i1
      have hb1' := hb1.set 0 (.slice p1 q c1)
      have Hrv := Lib.hid ((hb1'.set 1 (.slice po l.length co)).cells.runVar (P := Tryz.prog) (t := 25) (fun _ => by kernel_rfl) (fun _ => by kernel_rfl))
      have hB5 := (HBw.out.setCell (p := ⟨w.heap.size + 1, 0, none⟩) (Nat.le_succ _) (.slice p1 q c1)).setCell (p := ⟨w.heap.size + 1, 1, none⟩) (Nat.le_succ _) (.slice po l.length co)
      have hok5 : OwnT w0.heap.size ((wo.setCell ⟨w.heap.size + 1, 0, none⟩ (.slice p1 q c1)).setCell ⟨w.heap.size + 1, 1, none⟩ (.slice po l.length co)) (.slice p1 q c1) cols := by
        have h1 := Own.setOther Hok.out (Own.ne_blk Hok.out hb1 (by decide)) (p := ⟨w.heap.size + 1, 0, none⟩) (.slice p1 q c1)
        exact Own.setOther h1 (Own.ne_blk h1 hb1' (by decide)) _
      have hrk5 := (hrk.setBlk hb1 (by decide) (by decide) 0 (.slice p1 q c1)).setBlk hb1' (by decide) (by decide) 1 (.slice po l.length co)
      have Hr := Lib.hid (HR.out _ _ _ hB5 ((OwnT.sl hok5).mono Strs.loc (by omega) (Nat.le_refl _)) ((OwnR.rws hrk5).mono rowE_loc (by omega) (Nat.le_refl _)))
      clear hb1 hrk hsl hb2c hb1' hB5 hok5 hrk5
      go_wp2_with fail
      exact ret_cell rfl rfl Hrv.out rfl Hr.out
set_option maxRecDepth 100000 in
set_option maxHeartbeats 4000000 in
theorem ref16_any (ac av : Option Addr) (nc cc nv cv : Nat) (w : World) (R : Ending → World → Prop)
    (hR : ∀ w', Below w.heap.size w w' → R (.returned (.agg #[.slice ac nc cc, .slice av nv cv])) w') :
    Calls Tryz.prog 17 #[.agg #[.slice ac nc cc, .slice av nv cv]] w R := by
  have HR := Lib.hid hR
  clear hR
  have hB0 := alloc_below w (.cells #[.slice ac nc cc, .slice av nv cv] 25)
  have hb0 := Blk.new w [.slice ac nc cc, .slice av nv cv] 25 rfl
  go_enter Tryz.func17, Tryz.ntmps17
  go_upto_region 1 with fail
  have hB1 := hB0.alloc hB0.size (.cells #[.slice none 0 0, .slice none 0 0] 50)
  have hb1 : Blk _ (w.heap.size + 1) [.slice none 0 0, .slice none 0 0] 50 := Blk.new (w.alloc (.cells #[.slice ac nc cc, .slice av nv cv] 25)) [.slice none 0 0, .slice none 0 0] 50 (by show _ = (w.heap.push _).size; rw [Array.size_push])
  have hc0 := hb0.alloc (.cells #[.slice none 0 0, .slice none 0 0] 50)
  generalize (w.alloc (.cells #[.slice ac nc cc, .slice av nv cv] 25)).alloc (.cells #[.slice none 0 0, .slice none 0 0] 50) = w1 at *
  obtain ⟨d0, d1⟩ := hc0.cells.c2
  simp only [Nat.zero_add] at d1
  obtain ⟨e0, e1⟩ := hb1.cells.c2
  simp only [Nat.zero_add] at e1
  have f0 := hb1.free 0
  have f1 := hb1.free 1
  have Hrv := Lib.hid (((hb1.set 0 (.slice ac nc cc)).set 1 (.slice av nv cv)).cells.runVar (P := Tryz.prog) (t := 50) (fun _ => by kernel_rfl) (fun _ => by kernel_rfl))
  have Hr := Lib.hid (HR.out _ ((hB1.setCell (p := ⟨w.heap.size + 1, 0, none⟩) (Nat.le_succ _) (.slice ac nc cc)).setCell (p := ⟨w.heap.size + 1, 1, none⟩) (Nat.le_succ _) (.slice av nv cv)))
  clear hb0 hB0 hB1 hb1 hc0
  go_wp2_with fail
  exact ret_cell rfl rfl Hrv.out rfl Hr.out
end Go.Proofs.YtmconajkgjfplaaGreat
end

/- Whether tellings may be: fold.right. (Printed by fldx.py.) -/
section
set_option linter.unusedVariables false
set_option linter.unusedSimpArgs false
namespace Go.Proofs.YtmconajkgjfplaaGreat
open Go.RowKit
set_option linter.unusedVariables false
set_option linter.unusedSimpArgs false
attribute [local go_sem ↓] Go.wp_at_zero Go.wp_at_succ
/-- A telling. -/
structure Ag where
  op : Int
  col : S
  nm : S
  deriving Inhabited
def Ag.enc (a : Ag) : List Value := [.int .i64 a.op, .string ⟨a.col.toArray⟩, .string ⟨a.nm.toArray⟩]
abbrev Ags := Sl (flat Ag.enc) 3
theorem Ags.loc : Loc (flat Ag.enc) := flat_loc _
def aggBad (rc cols : List S) (a : Ag) : Bool := decide (a.op < 1) || decide (5 < a.op) || (decide (a.op = 1) && !decide (a.col = [])) || (!decide (a.op = 1) && decide (placeI rc a.col < 0)) || decide (0 ≤ placeI cols a.nm)
def fitAt (rc cols : List S) (l : List Ag) (k : Nat) : Bool := !aggBad rc (cols ++ (l.take k).map Ag.nm) (l.getD k default)
/-- May the tellings be, columns being there? -/
def fitsB (rc cols : List S) (l : List Ag) : Bool := (List.range l.length).all (fitAt rc cols l)
theorem fitsB_no {rc cols : List S} {l : List Ag} {k : Nat} (hk : k < l.length) (h : aggBad rc (cols ++ (l.take k).map Ag.nm) l[k] = true) : fitsB rc cols l = false := by
  unfold fitsB
  rw [List.all_eq_false]
  exact ⟨k, List.mem_range.2 hk, by unfold fitAt; rw [getDS l _ k hk, h]; simp⟩
theorem fitsB_yes {rc cols : List S} {l : List Ag} (h : ∀ k (hk : k < l.length), aggBad rc (cols ++ (l.take k).map Ag.nm) l[k] = false) : fitsB rc cols l = true := by
  unfold fitsB
  rw [List.all_eq_true]
  intro k hk
  have hk := List.mem_range.1 hk
  unfold fitAt
  rw [getDS l _ k hk, h k hk]; rfl
set_option maxRecDepth 100000 in
set_option maxHeartbeats 4000000 in
theorem fright_any (lc hc l2 h2 l3 h3 : Nat) (rc : List S) (ac : Option Addr) (cc : Nat) (ar : Option Addr) (nr cr : Nat) (cols : List S) (cv : Value) (l : List Ag) (lv : Value) (w : World) (hrc : Strs lc hc w (.slice ac rc.length cc) rc) (hhc : hc ≤ w.heap.size) (hcols : Strs l2 h2 w cv cols) (hh2 : h2 ≤ w.heap.size) (hl : Ags l3 h3 w lv l) (hh3 : h3 ≤ w.heap.size) (hlen : cols.length ≤ 1000000000000) (hll : l.length ≤ 1000000000000) (R : Ending → World → Prop)
    (hno : fitsB rc cols l = false → ∀ w', Below w.heap.size w w' → R (.returned (.tuple #[.slice none 0 0, .slice none 0 0, .bool false])) w')
    (hyes : fitsB rc cols l = true → ∀ w' tv iv, Below w.heap.size w w' → OwnT w.heap.size w' tv (cols ++ l.map Ag.nm) → OwnI w.heap.size w' iv (l.map fun a => placeI rc a.col) → R (.returned (.tuple #[tv, iv, .bool true])) w') :
    Calls Tryz.prog 35 #[.agg #[.slice ac rc.length cc, .slice ar nr cr], cv, lv] w R := by
  have HNo := Lib.hid hno
  have HYes := Lib.hid hyes
  have Hrc := Lib.hid hrc
  have Hcols := Lib.hid hcols
  have Hl := Lib.hid hl
  obtain ⟨ak, ck, rfl, -, -, -, -⟩ := hcols.form
  obtain ⟨al, cl, rfl, -, -, -, hal⟩ := hl.form
  have hll63 := hl.len
  have hrl63 := hrc.len
  clear hno hyes hrc hcols hl hal
  go_enter Tryz.func35, Tryz.ntmps35
  go_upto_region 1 with fail
  have hBa := alloc_below w (.cells #[.slice ac rc.length cc, .slice ar nr cr] 25)
  have hba := Blk.new w [.slice ac rc.length cc, .slice ar nr cr] 25 rfl
  generalize w.alloc (.cells #[.slice ac rc.length cc, .slice ar nr cr] 25) = wa at *
  have HBa := Lib.hid hBa
  have Hba := Lib.hid hba
  have hza := hBa.size
  have hla := hba.lt
  clear hBa hba
  go_wp2_with fail
  refine CloneStr_any l2 h2 cols _ wa (Sl.below Hcols.out Strs.loc HBa.out hh2) (by omega) (by omega) _ (fun w1 v1 hB1 ho1 => ?_)
  have HB1 := Lib.hid (HBa.out.trans (hB1.mono hza))
  have Hb1 := Lib.hid (Hba.out.below hB1 hla)
  have hz1 := hB1.size
  have Ho1 := Lib.hid (Own.lower ho1 (Nat.le_of_lt hla))
  have Ho1a := Lib.hid ho1
  obtain ⟨p1, c1, rfl⟩ := Own.slice ho1
  clear hB1 ho1 Hba HBa
  go_wp2_with fail
  go_loopw [6, 7, 16] (fun t6 t7 t16 wr => ∃ k : Nat, k ≤ l.length ∧ t16 = .int .i64 k ∧ Below w.heap.size w wr ∧ Blk wr w.heap.size [.slice ac rc.length cc, .slice ar nr cr] 25 ∧ OwnT wa.heap.size wr t6 (cols ++ (l.take k).map Ag.nm) ∧ OwnI wa.heap.size wr t7 ((l.take k).map fun a => placeI rc a.col) ∧ wa.heap.size ≤ wr.heap.size ∧ ∀ i (hi : i < l.length), i < k → aggBad rc (cols ++ (l.take i).map Ag.nm) l[i] = false) (fun _ _ t16 _ => l.length - (intOf t16).toNat)
  case atStart => exact ⟨0, Nat.zero_le _, rfl, HB1.out, Hb1.out, by simpa using Ho1a.out, by simpa using Own.nil _ _ _ _ _, hz1, fun i _ h => absurd h (Nat.not_lt_zero _)⟩
  case round =>
    obtain ⟨k, hk, rfl, hB, hb, ho6, ho7, hzr, hfit⟩ := hrel
    obtain ⟨wo, ewo⟩ : ∃ x, x = wr := ⟨_, rfl⟩
    subst ewo
    have HB := Lib.hid hB
    have Hb := Lib.hid hb
    have Ho6 := Lib.hid ho6
    have Ho7 := Lib.hid ho7
    have Hfit := Lib.hid hfit
    have hz := hB.size
    have hbl := hb.lt
    have kk0 : (0 : Int) ≤ (k : Int) := by omega
    obtain ⟨p6, c6, e6⟩ := Own.slice ho6
    obtain ⟨p7, c7, e7⟩ := Own.slice ho7
    subst e6 e7
    have el6 : (cols ++ (l.take k).map Ag.nm).length = cols.length + k := by rw [List.length_append, List.length_map, List.length_take, Nat.min_eq_left hk]
    have el7 : ((l.take k).map fun a => placeI rc a.col).length = k := by rw [List.length_map, List.length_take, Nat.min_eq_left hk]
    rw [el6] at Ho6 ⊢
    rw [el7] at Ho7 ⊢
    clear hB hb ho6 ho7 hfit el6 el7
    by_cases hlt : k < l.length
    · obtain ⟨ao', cap', e', -, -, -, hc⟩ := (Sl.below Hl.out Ags.loc HB.out hh3).form
      injection e' with e1 e2 e3
      subst e1 e3
      obtain ⟨b, off, rfl, hb1, hb2, hcc⟩ := hc k hlt
      obtain ⟨cs, -, hcs, ecs⟩ := hcc k hlt
      obtain rfl : cs = Ag.enc l[k] := ecs
      obtain ⟨g0, g1, g2⟩ := hcs.c3
      have kkl : (k : Int) < (l.length : Int) := by omega
      have Hst : Hid (l.take (k + 1) = l.take k ++ [l[k]]) := Lib.hid (List.take_succ_eq_append_getElem hlt)
      have Hbad : Hid (aggBad rc (cols ++ (l.take k).map Ag.nm) l[k] = true → fitsB rc cols l = false) := Lib.hid (fitsB_no hlt)
      have Hnext : Hid (aggBad rc (cols ++ (l.take k).map Ag.nm) l[k] = false → ∀ i (hi : i < l.length), i < k + 1 → aggBad rc (cols ++ (l.take i).map Ag.nm) l[i] = false) := Lib.hid (fun h i hi hik => by
        by_cases e : i = k
        · subst e; exact h
        · exact Hfit.out i hi (by omega))
      clear hcc hcs hc e2 Hfit
      generalize l[k] = a at *
      generalize hC : cols ++ (l.take k).map Ag.nm = C at *
      have HC := Lib.hid hC
      have hCl : C.length = cols.length + k := by rw [← hC, List.length_append, List.length_map, List.length_take, Nat.min_eq_left hk]
      have HCl := Lib.hid hCl
      clear hC hCl
      generalize hI : ((l.take k).map fun a => placeI rc a.col) = I at *
      have HI := Lib.hid hI
      clear hI
      go_upto_region 5 with fail
      have hBx := alloc_below wo (.cells #[.int .i64 a.op, .string ⟨a.col.toArray⟩, .string ⟨a.nm.toArray⟩] 41)
      have hbx := Blk.new wo [.int .i64 a.op, .string ⟨a.col.toArray⟩, .string ⟨a.nm.toArray⟩] 41 rfl
      generalize wo.alloc (.cells #[.int .i64 a.op, .string ⟨a.col.toArray⟩, .string ⟨a.nm.toArray⟩] 41) = wx at *
      have HBx := Lib.hid hBx
      have HBwx := Lib.hid (HB.out.trans (hBx.mono hz))
      have Hbx := Lib.hid hbx
      have Hb := Lib.hid (Hb.out.below hBx hbl)
      have hzx := hBx.size
      have Ho6 := Lib.hid (Own.kept Ho6.out hBx)
      have Ho7 := Lib.hid (Own.kept Ho7.out hBx)
      obtain ⟨c0, c1⟩ := Hb.out.cells.c2
      obtain ⟨d0, d1, d2⟩ := hbx.cells.c3
      simp only [Nat.zero_add] at c1 d1 d2
      clear g0 g1 g2 hBx hbx
      go_wp2_with fail
      refine Index_any lc hc rc a.col _ wx (Sl.below Hrc.out Strs.loc HBwx.out hhc) _ ?_
      have Hpl := Lib.hid (placeI_lt rc a.col)
      by_cases o1 : a.op < 1
      · have hbd : aggBad rc C a = true := by unfold aggBad; rw [decide_eq_true o1]; rfl
        have hr := HNo.out (Hbad.out hbd) wx HBwx.out
        clear hbd
        generalize placeI rc a.col = P at *
        go_wp2_with fail
        first | exact hr | exact fin hr rfl | exact bodyPost_ret (results_tmp3 rfl _ _ _) rfl (fin hr rfl)
      by_cases o5 : 5 < a.op
      · have hbd : aggBad rc C a = true := by unfold aggBad; rw [decide_eq_true o5]; simp
        have hr := HNo.out (Hbad.out hbd) wx HBwx.out
        clear hbd
        generalize placeI rc a.col = P at *
        go_wp2_with fail
        first | exact hr | exact fin hr rfl | exact bodyPost_ret (results_tmp3 rfl _ _ _) rfl (fin hr rfl)
      by_cases oc : a.op = 1
      · by_cases on : a.col = []
        · have hba : aggBad rc C a = decide (0 ≤ placeI C a.nm) := by unfold aggBad; rw [decide_eq_false o1, decide_eq_false o5, decide_eq_true oc, decide_eq_true on]; simp
          rw [hba] at Hbad Hnext
          clear hba
          obtain ⟨P, hP⟩ : ∃ P, P = placeI rc a.col := ⟨_, rfl⟩
          rw [← hP] at Hpl ⊢
          have HP := Lib.hid hP
          clear hP
          go_wp2_with fail
          refine Contains_any wa.heap.size wx.heap.size C a.nm _ wx (OwnT.sl Ho6.out) _ ?_
          by_cases oq : 0 ≤ placeI C a.nm
          · rw [decide_eq_true oq] at Hbad ⊢
            have hr := HNo.out (Hbad.out rfl) wx HBwx.out
            clear oq
            go_wp2_with fail
            first | exact hr | exact fin hr rfl | exact bodyPost_ret (results_tmp3 rfl _ _ _) rfl (fin hr rfl)
          rw [decide_eq_false oq] at Hnext ⊢
          clear oq
          have hcl6 : C.length ≤ 4000000000000 := by rw [HCl.out]; omega
          obtain ⟨v6, w6, hr6, ho6, ha6⟩ := appT1 Ho6.out a.nm rfl hcl6 (by omega)
          have hB6 : Below wa.heap.size wx w6 := ha6.below (by omega) (fun q e => (Own.lt Ho6.out q e).1)
          have hz6 := hB6.size
          have h76 : OwnI wa.heap.size w6 (.slice p7 k c7) I := Own.same Ho7.out (fun g hg => ha6.grown.block g (Own.lt Ho7.out g hg).2 (fun e => Own.apartT Ho7.out Ho6.out (by decide) hg e.symm))
          obtain ⟨v7, w7, hr7, ho7, ha7⟩ := appI1 h76 P rfl (by rw [← HI.out, List.length_map, List.length_take]; omega) (by omega)
          have hB7 : Below wa.heap.size w6 w7 := ha7.below (by omega) (fun q e => (Own.lt h76 q e).1)
          have h67 : OwnT wa.heap.size w7 v6 (C ++ [a.nm]) := Own.same ho6 (fun g hg => ha7.grown.block g (Own.lt ho6 g hg).2 (fun e => Own.apartT ho6 h76 (by decide) hg e.symm))
          have Hb7 := Lib.hid ((Hb.out.below (hB6.mono (show w.heap.size + 1 ≤ _ by omega)) (by omega)).below (hB7.mono (show w.heap.size + 1 ≤ _ by omega)) (by omega))
          have HB7 := Lib.hid ((HBwx.out.trans (hB6.mono hza)).trans (hB7.mono hza))
          have Ho67 := Lib.hid h67
          have Ho77 := Lib.hid ho7
          have hz7 := hB7.size
          obtain ⟨p6', c6', e6'⟩ := Own.slice ho6
          obtain ⟨p7', c7', e7'⟩ := Own.slice ho7
          subst e6' e7'
          clear ho6 ha6 hB6 h76 ho7 ha7 hB7 h67 c0 c1 d0 d1
          generalize (C ++ [a.nm]).length = n6 at *
          generalize (I ++ [P]).length = n7 at *
          go_wp2_with (at_builtin; refine AtApp.of ?_)
          refine AtApp.go hr6 rfl rfl rfl rfl ?_
          go_wp2_with (at_builtin; refine AtApp.of ?_)
          refine AtApp.go hr7 rfl rfl rfl rfl ?_
          go_wp2_with fail
          go_roundw
          case rel => exact ⟨k + 1, by omega, by go_num, HB7.out, Hb7.out, by rw [Hst.out, List.map_append, ← List.append_assoc, HC.out]; exact Ho67.out, by rw [Hst.out, List.map_append, HI.out]; simp only [List.map_cons, List.map_nil]; rw [← HP.out]; exact Ho77.out, by omega, Hnext.out (by first | trivial | rfl)⟩
          case measure => simp [intOf]; omega
        · have hbd : aggBad rc C a = true := by unfold aggBad; rw [decide_eq_true oc, decide_eq_false on]; simp
          have hr := HNo.out (Hbad.out hbd) wx HBwx.out
          clear hbd
          generalize placeI rc a.col = P at *
          go_wp2_with fail
          first | exact hr | exact fin hr rfl | exact bodyPost_ret (results_tmp3 rfl _ _ _) rfl (fin hr rfl)
      · by_cases on : placeI rc a.col < 0
        · have hbd : aggBad rc C a = true := by unfold aggBad; rw [decide_eq_false oc, decide_eq_true on]; simp
          have hr := HNo.out (Hbad.out hbd) wx HBwx.out
          clear hbd
          generalize placeI rc a.col = P at *
          go_wp2_with fail
          first | exact hr | exact fin hr rfl | exact bodyPost_ret (results_tmp3 rfl _ _ _) rfl (fin hr rfl)
        · have hba : aggBad rc C a = decide (0 ≤ placeI C a.nm) := by unfold aggBad; rw [decide_eq_false o1, decide_eq_false o5, decide_eq_false oc, decide_eq_false on]; simp
          rw [hba] at Hbad Hnext
          clear hba
          obtain ⟨P, hP⟩ : ∃ P, P = placeI rc a.col := ⟨_, rfl⟩
          rw [← hP] at Hpl on ⊢
          have HP := Lib.hid hP
          clear hP
          go_wp2_with fail
          refine Contains_any wa.heap.size wx.heap.size C a.nm _ wx (OwnT.sl Ho6.out) _ ?_
          by_cases oq : 0 ≤ placeI C a.nm
          · rw [decide_eq_true oq] at Hbad ⊢
            have hr := HNo.out (Hbad.out rfl) wx HBwx.out
            clear oq
            go_wp2_with fail
            first | exact hr | exact fin hr rfl | exact bodyPost_ret (results_tmp3 rfl _ _ _) rfl (fin hr rfl)
          rw [decide_eq_false oq] at Hnext ⊢
          clear oq
          have hcl6 : C.length ≤ 4000000000000 := by rw [HCl.out]; omega
          obtain ⟨v6, w6, hr6, ho6, ha6⟩ := appT1 Ho6.out a.nm rfl hcl6 (by omega)
          have hB6 : Below wa.heap.size wx w6 := ha6.below (by omega) (fun q e => (Own.lt Ho6.out q e).1)
          have hz6 := hB6.size
          have h76 : OwnI wa.heap.size w6 (.slice p7 k c7) I := Own.same Ho7.out (fun g hg => ha6.grown.block g (Own.lt Ho7.out g hg).2 (fun e => Own.apartT Ho7.out Ho6.out (by decide) hg e.symm))
          obtain ⟨v7, w7, hr7, ho7, ha7⟩ := appI1 h76 P rfl (by rw [← HI.out, List.length_map, List.length_take]; omega) (by omega)
          have hB7 : Below wa.heap.size w6 w7 := ha7.below (by omega) (fun q e => (Own.lt h76 q e).1)
          have h67 : OwnT wa.heap.size w7 v6 (C ++ [a.nm]) := Own.same ho6 (fun g hg => ha7.grown.block g (Own.lt ho6 g hg).2 (fun e => Own.apartT ho6 h76 (by decide) hg e.symm))
          have Hb7 := Lib.hid ((Hb.out.below (hB6.mono (show w.heap.size + 1 ≤ _ by omega)) (by omega)).below (hB7.mono (show w.heap.size + 1 ≤ _ by omega)) (by omega))
          have HB7 := Lib.hid ((HBwx.out.trans (hB6.mono hza)).trans (hB7.mono hza))
          have Ho67 := Lib.hid h67
          have Ho77 := Lib.hid ho7
          have hz7 := hB7.size
          obtain ⟨p6', c6', e6'⟩ := Own.slice ho6
          obtain ⟨p7', c7', e7'⟩ := Own.slice ho7
          subst e6' e7'
          clear ho6 ha6 hB6 h76 ho7 ha7 hB7 h67 c0 c1 d0 d1
          generalize (C ++ [a.nm]).length = n6 at *
          generalize (I ++ [P]).length = n7 at *
          go_wp2_with (at_builtin; refine AtApp.of ?_)
          refine AtApp.go hr6 rfl rfl rfl rfl ?_
          go_wp2_with (at_builtin; refine AtApp.of ?_)
          refine AtApp.go hr7 rfl rfl rfl rfl ?_
          go_wp2_with fail
          go_roundw
          case rel => exact ⟨k + 1, by omega, by go_num, HB7.out, Hb7.out, by rw [Hst.out, List.map_append, ← List.append_assoc, HC.out]; exact Ho67.out, by rw [Hst.out, List.map_append, HI.out]; simp only [List.map_cons, List.map_nil]; rw [← HP.out]; exact Ho77.out, by omega, Hnext.out (by first | trivial | rfl)⟩
          case measure => simp [intOf]; omega
    · obtain rfl : k = l.length := by omega
      have llt : ¬ ((l.length : Nat) : Int) < (l.length : Int) := by omega
      have h6 := Ho6.out
      have h7 := Ho7.out
      rw [List.take_length] at h6 h7
      have hr := HYes.out (fitsB_yes (fun k hk => Hfit.out k hk hk)) wo _ _ HB.out (Own.lower h6 (by omega)) (Own.lower h7 (by omega))
      clear h6 h7
      go_wp2_with fail
      first | exact hr | exact fin hr rfl | exact bodyPost_ret (results_tmp3 rfl _ _ _) rfl (fin hr rfl)
end Go.Proofs.YtmconajkgjfplaaGreat
end

/- Tellings, and a relation of whole values, of an argument: opened. -/
section
set_option linter.unusedVariables false
set_option linter.unusedSimpArgs false
namespace Go.Proofs.YtmconajkgjfplaaGreat
open Go.ChangeShapes Go.WideShapes Go.ChangeAt Go.RowKit
def agOk (a : Ag) : Prop := inI64 a.op
set_option maxRecDepth 100000 in
theorem el_ag {H : Type} {enc : TypeId × Value → H} {w : World} (n : Nat) (cs : List Value) (x : DataW H × List MemPlace) (hl : cs.length = 3)
    (h : DataW.trod enc Tryz.prog w 0 (fun _ => true) true n 41 cs = some x) : ∃ a : Ag, flat Ag.enc 0 w.heap.size w cs a ∧ agOk a := by
  obtain ⟨xs, m, _, _, _, hxl, hf⟩ := DataW.trod_struct Tryz.underlying41 h
  have k1 : Tryz.prog.cellsOf 3 = 1 := by kernel_rfl
  have k2 : Tryz.prog.cellsOf 9 = 1 := by kernel_rfl
  match cs, hl with
  | [c0, c1, c2], _ =>
    match xs, hxl with
    | [y0, y1, y2], _ =>
      have g0 := hf 0 _ rfl
      have g1 := hf 1 _ rfl
      have g2 := hf 2 _ rfl
      simp [k1, k2] at g0 g1 g2
      obtain ⟨i, e0, -, b0⟩ := DataW.trod_int Tryz.underlying3 g0
      obtain ⟨s, e1, -, b1⟩ := DataW.trod_string Tryz.underlying9 g1
      obtain ⟨t, e2, -, b2⟩ := DataW.trod_string Tryz.underlying9 g2
      simp at e0 e1 e2
      exact ⟨⟨i, s.data.toList, t.data.toList⟩, by simp [flat, Ag.enc, *], bd_i64 b0⟩
def rowOkV (x : List V) : Prop := ∀ a ∈ x, a.ok
set_option maxRecDepth 100000 in
theorem el_rowV {H : Type} {enc : TypeId × Value → H} {w : World} (n : Nat) (cs : List Value) (x : DataW H × List MemPlace) (hl : cs.length = 1)
    (h : DataW.trod enc Tryz.prog w 0 (fun _ => true) true n 36 cs = some x) : ∃ a : List V, rowE 0 w.heap.size w cs a ∧ rowOkV a := by
  match cs, hl with
  | [c0], _ =>
    obtain ⟨l, s3, b3⟩ := open_sl (α := V) (E := flat V.enc) (ok := V.ok) Tryz.underlying36 (size := 3) (by kernel_rfl) (by decide) el_V h
    exact ⟨l, ⟨c0, rfl, s3⟩, b3⟩
def relOkV (p : List S × List (List V)) : Prop := ∀ x ∈ p.2, rowOkV x
set_option maxRecDepth 100000 in
theorem el_relV {H : Type} {enc : TypeId × Value → H} {w : World} (n : Nat) (cs : List Value) (x : DataW H × List MemPlace) (hl : cs.length = 2)
    (h : DataW.trod enc Tryz.prog w 0 (fun _ => true) true n 25 cs = some x) : ∃ p : List S × List (List V), RelIn w (.agg cs.toArray) p ∧ relOkV p := by
  obtain ⟨xs, m, _, _, _, hxl, hf⟩ := DataW.trod_struct Tryz.underlying25 h
  have k1 : Tryz.prog.cellsOf 22 = 1 := by kernel_rfl
  have k2 : Tryz.prog.cellsOf 23 = 1 := by kernel_rfl
  match cs, hl with
  | [c0, c1], _ =>
    match xs, hxl with
    | [y0, y1], _ =>
      have g0 := hf 0 _ rfl
      have g1 := hf 1 _ rfl
      simp [k1, k2] at g0 g1
      obtain ⟨l0, s0, o0⟩ := open_sl (α := S) (E := flat strE) (ok := colOk) Tryz.underlying22 (size := 1) (by kernel_rfl) (by decide) el_col g0
      obtain ⟨l1, s1, o1⟩ := open_sl (α := List V) (E := rowE) (ok := rowOkV) Tryz.underlying23 (size := 1) (by kernel_rfl) (by decide) el_rowV g1
      have s0' := s0
      obtain ⟨ac, cc, rfl, -, -, -, -⟩ := s0'.form
      exact ⟨(l0, l1), ⟨ac, cc, c1, rfl, s0, s1⟩, o1⟩
set_option maxRecDepth 100000 in
theorem open_relV {H : Type} {enc : TypeId × Value → H} {w : World} {base : Nat} {v : Value} {x : DataW H × List MemPlace} (hv : Value.okWide Tryz.prog w .any base 25 v)
    (h : ∃ n, DataW.trod enc Tryz.prog w 0 (fun _ => true) true n 25 v.cells.toList = some x) : ∃ p : List S × List (List V), RelIn w v p ∧ relOkV p := by
  obtain ⟨cs, rfl, z⟩ := okWide_struct Tryz.underlying25 hv
  obtain ⟨n, h⟩ := h
  have k : Tryz.prog.cellsOf 25 = 2 := by kernel_rfl
  obtain ⟨p, hp, ho⟩ := el_relV n _ _ (by rw [← k, ← z]; simp [Value.cells]) h
  refine ⟨p, ?_, ho⟩
  simpa [Value.cells] using hp
end Go.Proofs.YtmconajkgjfplaaGreat
end

/- The document's Sorted. (Printed by gra.py.) -/
section
set_option linter.unusedVariables false
set_option linter.unusedSimpArgs false
namespace Go.Proofs.YtmconajkgjfplaaGreat
open Go.RowKit
set_option linter.unusedVariables false
set_option linter.unusedSimpArgs false
attribute [local go_sem ↓] Go.wp_at_zero Go.wp_at_succ
theorem size_Vs : ∀ w, (sizeOf (Tryz.prog.elem 35)).run Tryz.prog w = .ok 3 w := fun w => by kernel_rfl
theorem insR_len {x : V} : ∀ l : List V, (insR cmpV x l).length ≤ l.length + 1
  | [] => by simp [insR]
  | y :: r => by
    have := insR_len (x := x) r
    unfold insR
    split
    · simp
    · split
      · simp
      · simp; omega
theorem canon_len_leV (l : List V) : (canonL cmpV l).length ≤ l.length := by
  have : ∀ (l o : List V), (l.foldl (fun o x => insR cmpV x o) o).length ≤ o.length + l.length := by
    intro l
    induction l with
    | nil => intro o; simp
    | cons x r ih =>
      intro o
      rw [List.foldl_cons]
      have h1 := ih (insR cmpV x o)
      have h2 := insR_len (x := x) o
      rw [List.length_cons]
      omega
  have h := this l []
  simpa [canonL] using h
theorem canon_snoc {l : List V} {k : Nat} (h : k < l.length) : canonL cmpV (l.take (k + 1)) = insR cmpV l[k] (canonL cmpV (l.take k)) := by
  rw [List.take_succ_eq_append_getElem h]
  unfold canonL
  rw [List.foldl_append]
  rfl
set_option maxRecDepth 100000 in
set_option maxHeartbeats 8000000 in
theorem refSorted_any (lo hi : Nat) (l : List V) (v : Value) (w : World) (hv : Row1 lo hi w v l) (hhi : hi ≤ w.heap.size) (hlen : l.length ≤ 1000000000) (hs : ∀ x ∈ l, x.s.length ≤ 9223372036854775807) (R : Ending → World → Prop)
    (hR : ∀ w' v', Below w.heap.size w w' → OwnV w.heap.size w' v' (sortV l) → R (.returned v') w') : Calls Tryz.prog 78 #[v] w R := by
  have HR := Lib.hid hR
  have Hv := Lib.hid hv
  have Hs := Lib.hid hs
  obtain ⟨av, cx, rfl, -, -, -, -⟩ := hv.form
  obtain ⟨n, hn⟩ : ∃ n, n = l.length := ⟨_, rfl⟩
  rw [← hn] at hlen ⊢
  have Hn := Lib.hid hn
  clear hR hv hs hn
  go_enter Tryz.func78, Tryz.ntmps78
  go_wp2_with fail
  go_loopw [3, 4] (fun t3 t4 wr => ∃ i : Nat, i ≤ n ∧ t4 = .int .i64 i ∧ Below w.heap.size w wr ∧ OwnV w.heap.size wr t3 (canonL cmpV (l.take i))) (fun _ t4 _ => n - (intOf t4).toNat)
  case atStart => exact ⟨0, Nat.zero_le _, rfl, Below.refl _ _, Own.nil _ _ _ _ _⟩
  case round =>
    obtain ⟨i, hi', rfl, hB, hown⟩ := hrel
    obtain ⟨wo, ewo⟩ : ∃ x, x = wr := ⟨_, rfl⟩
    subst ewo
    have HB := Lib.hid hB
    have Hown := Lib.hid hown
    have hz := hB.size
    have ii0 : (0 : Int) ≤ (i : Int) := by omega
    obtain ⟨po, co, hpo⟩ := Own.slice hown
    clear hB
    by_cases hlt : i < n
    · have hil : i < l.length := by rw [← Hn.out]; exact hlt
      have iil : (i : Int) < (n : Int) := by omega
      have Hst := Lib.hid (canon_snoc hil)
      have Hup := Lib.hid (canon_up cmpV_cmp (l.take i))
      have Hso : Hid (∀ y ∈ canonL cmpV (l.take i), y.s.length ≤ 9223372036854775807) := Lib.hid (fun y hy => Hs.out y (List.mem_of_mem_take ((canon_mem cmpV_cmp _ y).1 hy)))
      have hol : (canonL cmpV (l.take i)).length ≤ n := by
        have : (canonL cmpV (l.take i)).length ≤ (l.take i).length := canon_len_leV _
        rw [List.length_take] at this
        omega
      obtain ⟨ao', cap', e', -, -, -, hc⟩ := (Sl.below Hv.out Row1.loc HB.out hhi).form
      injection e' with e1 e2 e3
      subst e1 e3
      obtain ⟨bx, ox, rfl, hbx1, hbx2, hcc⟩ := hc i hil
      obtain ⟨cs, -, hcs, ecs⟩ := hcc i hil
      obtain rfl : cs = V.enc l[i] := ecs
      have Hgx := Lib.hid hcs
      have hbxw : bx < wo.heap.size := by omega
      have Hxs := Lib.hid (Hs.out _ (List.getElem_mem hil))
      clear hcc hcs hc e2 hown
      generalize l[i] = x at *
      generalize canonL cmpV (l.take i) = out at *
      obtain ⟨m, hm⟩ : ∃ m, m = out.length := ⟨_, rfl⟩
      have Hm := Lib.hid hm
      rw [← hm] at hpo hol
      clear hm
      subst hpo
      go_wp2_with fail
      go_loopw [5] (fun t5 wr => ∃ a : Nat, a ≤ m ∧ t5 = .int .i64 a ∧ (∀ j (hj : j < out.length), j < a → cmpV out[j] x < 0) ∧ Below wo.heap.size wo wr) (fun t5 _ => m - (intOf t5).toNat)
      case atStart => exact ⟨0, Nat.zero_le _, rfl, fun j hj h => absurd h (Nat.not_lt_zero _), Below.refl _ _⟩
      case round =>
        obtain ⟨a, ha, rfl, hbf, hBi⟩ := hrel
        obtain ⟨wi, ewi⟩ : ∃ x, x = wr := ⟨_, rfl⟩
        subst ewi
        have Hbf := Lib.hid hbf
        have HBi := Lib.hid hBi
        have hzi := hBi.size
        have aa0 : (0 : Int) ≤ (a : Int) := by omega
        have Hoi := Lib.hid (Own.kept Hown.out hBi)
        have Hgxi := Lib.hid (Hgx.out.agree (.below hBi (Nat.le_refl _)) (Nat.zero_le _) hbxw)
        clear hbf hBi
        by_cases hlta : a < m
        · have aal : (a : Int) < (m : Int) := by omega
          have hao : a < out.length := by rw [← Hm.out]; exact hlta
          obtain ⟨ao', cap', e', -, -, -, hc⟩ := (OwnV.sl Hoi.out).form
          injection e' with e1 e2 e3
          subst e1 e3
          obtain ⟨bo, oo, rfl, hbo1, hbo2, hcc⟩ := hc a hao
          obtain ⟨cs, -, hcs, ecs⟩ := hcc a hao
          obtain rfl : cs = V.enc out[a] := ecs
          have Hgy := Lib.hid hcs
          have hbow : bo < wi.heap.size := hbo2
          have Hys := Lib.hid (Hso.out _ (List.getElem_mem hao))
          have Hlt : Hid (cmpV out[a] x < 0 → ∀ j (hj : j < out.length), j < a + 1 → cmpV out[j] x < 0) := Lib.hid (fun h j hj hja => by
            by_cases e : j = a
            · subst e; exact h
            · exact Hbf.out j hj (by omega))
          have Heq : Hid (cmpV out[a] x = 0 → insR cmpV x out = out) := Lib.hid (fun h => insR_hit cmpV_cmp x Hup.out hao (by have := cmpV_cmp.anti out[a] x; omega))
          have Hgt : Hid (0 < cmpV out[a] x → insR cmpV x out = out.take a ++ [x] ++ out.drop a) := Lib.hid (fun h => insR_at cmpV_cmp x out a (by omega) (fun j hj hja => by
            have e1 := cmpV_cmp.anti out[a] x
            by_cases e : j = a
            · subst e; omega
            · exact cmpV_cmp.trans _ out[a] _ (by omega) (up_lt Hup.out (by omega) hj)) Hbf.out)
          clear hcc hcs hc e2
          generalize out[a] = y at *
          go_upto_region 6 with fail
          rcases cmpV_cmp.three y x with h3 | h3 | h3
          · have hS0 : Below wi.heap.size wi wi.drew := (Below.refl _ _).drew
            refine wp_region_held_drew (S := fun w' => Below wi.heap.size wi w') (by kernel_rfl) hS0 (fun hHeld => ?_)
            refine wpAnyH_take (i := 0) (v := .int .i64 ((a : Int))) rfl (by kernel_rfl) (by kernel_rfl) (by kernel_rfl) (fun _ _ _ h => h) (Or.inl ⟨by rfl, ?_⟩) hHeld ?_
            · intro w' hSw; go_simp
            try simp only [Act.put, List.getElem_toArray, List.getElem_cons_succ, List.getElem_cons_zero, List.setIfInBounds_toArray, List.set_cons_zero, List.set_cons_succ]
            refine wpAnyH_take (i := 1) (v := .slice (some ⟨bo, oo, none⟩) m co) rfl (by kernel_rfl) (by kernel_rfl) (by kernel_rfl) (fun _ _ _ h => h) (Or.inl ⟨by rfl, ?_⟩) hHeld ?_
            · intro w' hSw; go_simp
            try simp only [Act.put, List.getElem_toArray, List.getElem_cons_succ, List.getElem_cons_zero, List.setIfInBounds_toArray, List.set_cons_zero, List.set_cons_succ]
            refine wpAnyH_take (i := 2) (v := .int .i64 ((m : Int))) rfl (by kernel_rfl) (by kernel_rfl) (by kernel_rfl) (fun _ _ _ h => h) (Or.inl ⟨by rfl, ?_⟩) hHeld ?_
            · intro w' hSw; go_simp
            try simp only [Act.put, List.getElem_toArray, List.getElem_cons_succ, List.getElem_cons_zero, List.setIfInBounds_toArray, List.set_cons_zero, List.set_cons_succ]
            refine wpAnyH_take (i := 3) (v := .bool true) rfl (by kernel_rfl) (by kernel_rfl) (by kernel_rfl) (fun _ _ _ h => h) (Or.inl ⟨by rfl, ?_⟩) hHeld ?_
            · intro w' hSw; go_simp
            try simp only [Act.put, List.getElem_toArray, List.getElem_cons_succ, List.getElem_cons_zero, List.setIfInBounds_toArray, List.set_cons_zero, List.set_cons_succ]
            refine wpAnyH_take (i := 4) (v := .bool true) rfl (by kernel_rfl) (by kernel_rfl) (by kernel_rfl) (fun _ _ _ h => h) (Or.inl ⟨by rfl, ?_⟩) hHeld ?_
            · intro w' hSw; go_simp
            try simp only [Act.put, List.getElem_toArray, List.getElem_cons_succ, List.getElem_cons_zero, List.setIfInBounds_toArray, List.set_cons_zero, List.set_cons_succ]
            refine wpAnyH_take (i := 5) (v := .slice (some ⟨bo, oo, none⟩) m co) rfl (by kernel_rfl) (by kernel_rfl) (by kernel_rfl) (fun _ _ _ h => h) (Or.inl ⟨by rfl, ?_⟩) hHeld ?_
            · intro w' hSw; go_simp
            try simp only [Act.put, List.getElem_toArray, List.getElem_cons_succ, List.getElem_cons_zero, List.setIfInBounds_toArray, List.set_cons_zero, List.set_cons_succ]
            refine wpAnyH_take (i := 6) (v := .int .i64 ((a : Int))) rfl (by kernel_rfl) (by kernel_rfl) (by kernel_rfl) (fun _ _ _ h => h) (Or.inl ⟨by rfl, ?_⟩) hHeld ?_
            · intro w' hSw; go_simp
            try simp only [Act.put, List.getElem_toArray, List.getElem_cons_succ, List.getElem_cons_zero, List.setIfInBounds_toArray, List.set_cons_zero, List.set_cons_succ]
            refine wpAnyH_take (i := 7) (v := .pointer (some ⟨bo, oo + a * 3, none⟩)) rfl (by kernel_rfl) (by kernel_rfl) (by kernel_rfl) (fun _ _ _ h => h) (Or.inl ⟨by rfl, ?_⟩) hHeld ?_
            · intro w' hSw; go_simp
            try simp only [Act.put, List.getElem_toArray, List.getElem_cons_succ, List.getElem_cons_zero, List.setIfInBounds_toArray, List.set_cons_zero, List.set_cons_succ]
            refine wpAnyH_take (i := 8) (v := .agg #[.int .i64 y.kind, .int .i64 y.n, .string ⟨y.s.toArray⟩]) rfl (by kernel_rfl) (by kernel_rfl) (by kernel_rfl) (fun _ _ _ h => h) (Or.inl ⟨by rfl, ?_⟩) hHeld ?_
            · intro w' hSw; obtain ⟨z0, z1, z2⟩ := (Hgy.out.agree (.below hSw (Nat.le_refl _)) (Nat.zero_le _) hbow).c3; go_simp
            try simp only [Act.put, List.getElem_toArray, List.getElem_cons_succ, List.getElem_cons_zero, List.setIfInBounds_toArray, List.set_cons_zero, List.set_cons_succ]
            refine wpAnyH_take (i := 9) (v := .slice (some ⟨bx, ox, none⟩) n cx) rfl (by kernel_rfl) (by kernel_rfl) (by kernel_rfl) (fun _ _ _ h => h) (Or.inl ⟨by rfl, ?_⟩) hHeld ?_
            · intro w' hSw; go_simp
            try simp only [Act.put, List.getElem_toArray, List.getElem_cons_succ, List.getElem_cons_zero, List.setIfInBounds_toArray, List.set_cons_zero, List.set_cons_succ]
            refine wpAnyH_take (i := 10) (v := .int .i64 ((i : Int))) rfl (by kernel_rfl) (by kernel_rfl) (by kernel_rfl) (fun _ _ _ h => h) (Or.inl ⟨by rfl, ?_⟩) hHeld ?_
            · intro w' hSw; go_simp
            try simp only [Act.put, List.getElem_toArray, List.getElem_cons_succ, List.getElem_cons_zero, List.setIfInBounds_toArray, List.set_cons_zero, List.set_cons_succ]
            refine wpAnyH_take (i := 11) (v := .pointer (some ⟨bx, ox + i * 3, none⟩)) rfl (by kernel_rfl) (by kernel_rfl) (by kernel_rfl) (fun _ _ _ h => h) (Or.inl ⟨by rfl, ?_⟩) hHeld ?_
            · intro w' hSw; go_simp
            try simp only [Act.put, List.getElem_toArray, List.getElem_cons_succ, List.getElem_cons_zero, List.setIfInBounds_toArray, List.set_cons_zero, List.set_cons_succ]
            refine wpAnyH_take (i := 12) (v := .agg #[.int .i64 x.kind, .int .i64 x.n, .string ⟨x.s.toArray⟩]) rfl (by kernel_rfl) (by kernel_rfl) (by kernel_rfl) (fun _ _ _ h => h) (Or.inl ⟨by rfl, ?_⟩) hHeld ?_
            · intro w' hSw; obtain ⟨z0, z1, z2⟩ := (Hgxi.out.agree (.below hSw (Nat.le_refl _)) (Nat.zero_le _) (by omega)).c3; go_simp
            try simp only [Act.put, List.getElem_toArray, List.getElem_cons_succ, List.getElem_cons_zero, List.setIfInBounds_toArray, List.set_cons_zero, List.set_cons_succ]
            refine wpAnyH_ready (rs := [13]) (by kernel_rfl) (by simp) ?_
            refine allCall (f := 79) (args := #[y.agg, x.agg]) rfl (by kernel_rfl) (by kernel_rfl) ?_ AllReadyH.nil
            refine refCompare_any y x wi.drew Hys.out Hxs.out _ (fun wq hBq => ?_)
            refine ⟨_, rfl, hS0.trans (hBq.mono (Nat.le_refl _)), ?_⟩
            have HH := Lib.hid (hS0.trans (hBq.mono (Nat.le_refl _)))
            clear hBq hHeld
            have hHeld := HH.out
            rw [h3]
            try simp only [Act.put, List.getElem_toArray, List.getElem_cons_succ, List.getElem_cons_zero, List.setIfInBounds_toArray, List.set_cons_zero, List.set_cons_succ]
            refine wpAnyH_take (i := 14) (v := .bool true) rfl (by kernel_rfl) (by kernel_rfl) (by kernel_rfl) (fun _ _ _ h => h) (Or.inl ⟨by rfl, ?_⟩) hHeld ?_
            · intro w' hSw; go_simp
            try simp only [Act.put, List.getElem_toArray, List.getElem_cons_succ, List.getElem_cons_zero, List.setIfInBounds_toArray, List.set_cons_zero, List.set_cons_succ]
            refine wpAnyH_take (i := 15) (v := .bool true) rfl (by kernel_rfl) (by kernel_rfl) (by kernel_rfl) (fun _ _ _ h => h) (Or.inl ⟨by rfl, ?_⟩) hHeld ?_
            · intro w' hSw; go_simp
            try simp only [Act.put, List.getElem_toArray, List.getElem_cons_succ, List.getElem_cons_zero, List.setIfInBounds_toArray, List.set_cons_zero, List.set_cons_succ]
            refine wpAnyH_done (by kernel_rfl) ?_ _
            clear hHeld
            have Hn := Lib.hid (Hlt.out (by omega))
            clear h3
            go_wp2_with fail
            go_roundw
            case rel => exact ⟨a + 1, by omega, by go_num, Hn.out, HBi.out.trans (HH.out.mono hzi)⟩
            case measure => simp [intOf]; omega
          · have hS0 : Below wi.heap.size wi wi.drew := (Below.refl _ _).drew
            refine wp_region_held_drew (S := fun w' => Below wi.heap.size wi w') (by kernel_rfl) hS0 (fun hHeld => ?_)
            refine wpAnyH_take (i := 0) (v := .int .i64 ((a : Int))) rfl (by kernel_rfl) (by kernel_rfl) (by kernel_rfl) (fun _ _ _ h => h) (Or.inl ⟨by rfl, ?_⟩) hHeld ?_
            · intro w' hSw; go_simp
            try simp only [Act.put, List.getElem_toArray, List.getElem_cons_succ, List.getElem_cons_zero, List.setIfInBounds_toArray, List.set_cons_zero, List.set_cons_succ]
            refine wpAnyH_take (i := 1) (v := .slice (some ⟨bo, oo, none⟩) m co) rfl (by kernel_rfl) (by kernel_rfl) (by kernel_rfl) (fun _ _ _ h => h) (Or.inl ⟨by rfl, ?_⟩) hHeld ?_
            · intro w' hSw; go_simp
            try simp only [Act.put, List.getElem_toArray, List.getElem_cons_succ, List.getElem_cons_zero, List.setIfInBounds_toArray, List.set_cons_zero, List.set_cons_succ]
            refine wpAnyH_take (i := 2) (v := .int .i64 ((m : Int))) rfl (by kernel_rfl) (by kernel_rfl) (by kernel_rfl) (fun _ _ _ h => h) (Or.inl ⟨by rfl, ?_⟩) hHeld ?_
            · intro w' hSw; go_simp
            try simp only [Act.put, List.getElem_toArray, List.getElem_cons_succ, List.getElem_cons_zero, List.setIfInBounds_toArray, List.set_cons_zero, List.set_cons_succ]
            refine wpAnyH_take (i := 3) (v := .bool true) rfl (by kernel_rfl) (by kernel_rfl) (by kernel_rfl) (fun _ _ _ h => h) (Or.inl ⟨by rfl, ?_⟩) hHeld ?_
            · intro w' hSw; go_simp
            try simp only [Act.put, List.getElem_toArray, List.getElem_cons_succ, List.getElem_cons_zero, List.setIfInBounds_toArray, List.set_cons_zero, List.set_cons_succ]
            refine wpAnyH_take (i := 4) (v := .bool true) rfl (by kernel_rfl) (by kernel_rfl) (by kernel_rfl) (fun _ _ _ h => h) (Or.inl ⟨by rfl, ?_⟩) hHeld ?_
            · intro w' hSw; go_simp
            try simp only [Act.put, List.getElem_toArray, List.getElem_cons_succ, List.getElem_cons_zero, List.setIfInBounds_toArray, List.set_cons_zero, List.set_cons_succ]
            refine wpAnyH_take (i := 5) (v := .slice (some ⟨bo, oo, none⟩) m co) rfl (by kernel_rfl) (by kernel_rfl) (by kernel_rfl) (fun _ _ _ h => h) (Or.inl ⟨by rfl, ?_⟩) hHeld ?_
            · intro w' hSw; go_simp
            try simp only [Act.put, List.getElem_toArray, List.getElem_cons_succ, List.getElem_cons_zero, List.setIfInBounds_toArray, List.set_cons_zero, List.set_cons_succ]
            refine wpAnyH_take (i := 6) (v := .int .i64 ((a : Int))) rfl (by kernel_rfl) (by kernel_rfl) (by kernel_rfl) (fun _ _ _ h => h) (Or.inl ⟨by rfl, ?_⟩) hHeld ?_
            · intro w' hSw; go_simp
            try simp only [Act.put, List.getElem_toArray, List.getElem_cons_succ, List.getElem_cons_zero, List.setIfInBounds_toArray, List.set_cons_zero, List.set_cons_succ]
            refine wpAnyH_take (i := 7) (v := .pointer (some ⟨bo, oo + a * 3, none⟩)) rfl (by kernel_rfl) (by kernel_rfl) (by kernel_rfl) (fun _ _ _ h => h) (Or.inl ⟨by rfl, ?_⟩) hHeld ?_
            · intro w' hSw; go_simp
            try simp only [Act.put, List.getElem_toArray, List.getElem_cons_succ, List.getElem_cons_zero, List.setIfInBounds_toArray, List.set_cons_zero, List.set_cons_succ]
            refine wpAnyH_take (i := 8) (v := .agg #[.int .i64 y.kind, .int .i64 y.n, .string ⟨y.s.toArray⟩]) rfl (by kernel_rfl) (by kernel_rfl) (by kernel_rfl) (fun _ _ _ h => h) (Or.inl ⟨by rfl, ?_⟩) hHeld ?_
            · intro w' hSw; obtain ⟨z0, z1, z2⟩ := (Hgy.out.agree (.below hSw (Nat.le_refl _)) (Nat.zero_le _) hbow).c3; go_simp
            try simp only [Act.put, List.getElem_toArray, List.getElem_cons_succ, List.getElem_cons_zero, List.setIfInBounds_toArray, List.set_cons_zero, List.set_cons_succ]
            refine wpAnyH_take (i := 9) (v := .slice (some ⟨bx, ox, none⟩) n cx) rfl (by kernel_rfl) (by kernel_rfl) (by kernel_rfl) (fun _ _ _ h => h) (Or.inl ⟨by rfl, ?_⟩) hHeld ?_
            · intro w' hSw; go_simp
            try simp only [Act.put, List.getElem_toArray, List.getElem_cons_succ, List.getElem_cons_zero, List.setIfInBounds_toArray, List.set_cons_zero, List.set_cons_succ]
            refine wpAnyH_take (i := 10) (v := .int .i64 ((i : Int))) rfl (by kernel_rfl) (by kernel_rfl) (by kernel_rfl) (fun _ _ _ h => h) (Or.inl ⟨by rfl, ?_⟩) hHeld ?_
            · intro w' hSw; go_simp
            try simp only [Act.put, List.getElem_toArray, List.getElem_cons_succ, List.getElem_cons_zero, List.setIfInBounds_toArray, List.set_cons_zero, List.set_cons_succ]
            refine wpAnyH_take (i := 11) (v := .pointer (some ⟨bx, ox + i * 3, none⟩)) rfl (by kernel_rfl) (by kernel_rfl) (by kernel_rfl) (fun _ _ _ h => h) (Or.inl ⟨by rfl, ?_⟩) hHeld ?_
            · intro w' hSw; go_simp
            try simp only [Act.put, List.getElem_toArray, List.getElem_cons_succ, List.getElem_cons_zero, List.setIfInBounds_toArray, List.set_cons_zero, List.set_cons_succ]
            refine wpAnyH_take (i := 12) (v := .agg #[.int .i64 x.kind, .int .i64 x.n, .string ⟨x.s.toArray⟩]) rfl (by kernel_rfl) (by kernel_rfl) (by kernel_rfl) (fun _ _ _ h => h) (Or.inl ⟨by rfl, ?_⟩) hHeld ?_
            · intro w' hSw; obtain ⟨z0, z1, z2⟩ := (Hgxi.out.agree (.below hSw (Nat.le_refl _)) (Nat.zero_le _) (by omega)).c3; go_simp
            try simp only [Act.put, List.getElem_toArray, List.getElem_cons_succ, List.getElem_cons_zero, List.setIfInBounds_toArray, List.set_cons_zero, List.set_cons_succ]
            refine wpAnyH_ready (rs := [13]) (by kernel_rfl) (by simp) ?_
            refine allCall (f := 79) (args := #[y.agg, x.agg]) rfl (by kernel_rfl) (by kernel_rfl) ?_ AllReadyH.nil
            refine refCompare_any y x wi.drew Hys.out Hxs.out _ (fun wq hBq => ?_)
            refine ⟨_, rfl, hS0.trans (hBq.mono (Nat.le_refl _)), ?_⟩
            have HH := Lib.hid (hS0.trans (hBq.mono (Nat.le_refl _)))
            clear hBq hHeld
            have hHeld := HH.out
            rw [h3]
            try simp only [Act.put, List.getElem_toArray, List.getElem_cons_succ, List.getElem_cons_zero, List.setIfInBounds_toArray, List.set_cons_zero, List.set_cons_succ]
            refine wpAnyH_take (i := 14) (v := .bool false) rfl (by kernel_rfl) (by kernel_rfl) (by kernel_rfl) (fun _ _ _ h => h) (Or.inl ⟨by rfl, ?_⟩) hHeld ?_
            · intro w' hSw; go_simp
            try simp only [Act.put, List.getElem_toArray, List.getElem_cons_succ, List.getElem_cons_zero, List.setIfInBounds_toArray, List.set_cons_zero, List.set_cons_succ]
            refine wpAnyH_take (i := 15) (v := .bool false) rfl (by kernel_rfl) (by kernel_rfl) (by kernel_rfl) (fun _ _ _ h => h) (Or.inl ⟨by rfl, ?_⟩) hHeld ?_
            · intro w' hSw; go_simp
            try simp only [Act.put, List.getElem_toArray, List.getElem_cons_succ, List.getElem_cons_zero, List.setIfInBounds_toArray, List.set_cons_zero, List.set_cons_succ]
            refine wpAnyH_done (by kernel_rfl) ?_ _
            clear hHeld
            go_upto_region 8 with fail
            have HHa := HH
            have hzq := HH.out.size
            have Hgyq := Lib.hid (Hgy.out.agree (.below HH.out (Nat.le_refl _)) (Nat.zero_le _) hbow)
            have Hgxq := Lib.hid (Hgxi.out.agree (.below HH.out (Nat.le_refl _)) (Nat.zero_le _) (by omega))
            have hboq : bo < wq.heap.size := by omega
            have hbxq : bx < wq.heap.size := by omega
            have hS0 : Below wq.heap.size wq wq.drew := (Below.refl _ _).drew
            refine wp_region_held_drew (S := fun w' => Below wq.heap.size wq w') (by kernel_rfl) hS0 (fun hHeld => ?_)
            refine wpAnyH_take (i := 0) (v := .int .i64 ((a : Int))) rfl (by kernel_rfl) (by kernel_rfl) (by kernel_rfl) (fun _ _ _ h => h) (Or.inl ⟨by rfl, ?_⟩) hHeld ?_
            · intro w' hSw; go_simp
            try simp only [Act.put, List.getElem_toArray, List.getElem_cons_succ, List.getElem_cons_zero, List.setIfInBounds_toArray, List.set_cons_zero, List.set_cons_succ]
            refine wpAnyH_take (i := 1) (v := .slice (some ⟨bo, oo, none⟩) m co) rfl (by kernel_rfl) (by kernel_rfl) (by kernel_rfl) (fun _ _ _ h => h) (Or.inl ⟨by rfl, ?_⟩) hHeld ?_
            · intro w' hSw; go_simp
            try simp only [Act.put, List.getElem_toArray, List.getElem_cons_succ, List.getElem_cons_zero, List.setIfInBounds_toArray, List.set_cons_zero, List.set_cons_succ]
            refine wpAnyH_take (i := 2) (v := .int .i64 ((m : Int))) rfl (by kernel_rfl) (by kernel_rfl) (by kernel_rfl) (fun _ _ _ h => h) (Or.inl ⟨by rfl, ?_⟩) hHeld ?_
            · intro w' hSw; go_simp
            try simp only [Act.put, List.getElem_toArray, List.getElem_cons_succ, List.getElem_cons_zero, List.setIfInBounds_toArray, List.set_cons_zero, List.set_cons_succ]
            refine wpAnyH_take (i := 3) (v := .bool true) rfl (by kernel_rfl) (by kernel_rfl) (by kernel_rfl) (fun _ _ _ h => h) (Or.inl ⟨by rfl, ?_⟩) hHeld ?_
            · intro w' hSw; go_simp
            try simp only [Act.put, List.getElem_toArray, List.getElem_cons_succ, List.getElem_cons_zero, List.setIfInBounds_toArray, List.set_cons_zero, List.set_cons_succ]
            refine wpAnyH_take (i := 4) (v := .bool true) rfl (by kernel_rfl) (by kernel_rfl) (by kernel_rfl) (fun _ _ _ h => h) (Or.inl ⟨by rfl, ?_⟩) hHeld ?_
            · intro w' hSw; go_simp
            try simp only [Act.put, List.getElem_toArray, List.getElem_cons_succ, List.getElem_cons_zero, List.setIfInBounds_toArray, List.set_cons_zero, List.set_cons_succ]
            refine wpAnyH_take (i := 5) (v := .slice (some ⟨bo, oo, none⟩) m co) rfl (by kernel_rfl) (by kernel_rfl) (by kernel_rfl) (fun _ _ _ h => h) (Or.inl ⟨by rfl, ?_⟩) hHeld ?_
            · intro w' hSw; go_simp
            try simp only [Act.put, List.getElem_toArray, List.getElem_cons_succ, List.getElem_cons_zero, List.setIfInBounds_toArray, List.set_cons_zero, List.set_cons_succ]
            refine wpAnyH_take (i := 6) (v := .int .i64 ((a : Int))) rfl (by kernel_rfl) (by kernel_rfl) (by kernel_rfl) (fun _ _ _ h => h) (Or.inl ⟨by rfl, ?_⟩) hHeld ?_
            · intro w' hSw; go_simp
            try simp only [Act.put, List.getElem_toArray, List.getElem_cons_succ, List.getElem_cons_zero, List.setIfInBounds_toArray, List.set_cons_zero, List.set_cons_succ]
            refine wpAnyH_take (i := 7) (v := .pointer (some ⟨bo, oo + a * 3, none⟩)) rfl (by kernel_rfl) (by kernel_rfl) (by kernel_rfl) (fun _ _ _ h => h) (Or.inl ⟨by rfl, ?_⟩) hHeld ?_
            · intro w' hSw; go_simp
            try simp only [Act.put, List.getElem_toArray, List.getElem_cons_succ, List.getElem_cons_zero, List.setIfInBounds_toArray, List.set_cons_zero, List.set_cons_succ]
            refine wpAnyH_take (i := 8) (v := .agg #[.int .i64 y.kind, .int .i64 y.n, .string ⟨y.s.toArray⟩]) rfl (by kernel_rfl) (by kernel_rfl) (by kernel_rfl) (fun _ _ _ h => h) (Or.inl ⟨by rfl, ?_⟩) hHeld ?_
            · intro w' hSw; obtain ⟨z0, z1, z2⟩ := (Hgyq.out.agree (.below hSw (Nat.le_refl _)) (Nat.zero_le _) hboq).c3; go_simp
            try simp only [Act.put, List.getElem_toArray, List.getElem_cons_succ, List.getElem_cons_zero, List.setIfInBounds_toArray, List.set_cons_zero, List.set_cons_succ]
            refine wpAnyH_take (i := 9) (v := .slice (some ⟨bx, ox, none⟩) n cx) rfl (by kernel_rfl) (by kernel_rfl) (by kernel_rfl) (fun _ _ _ h => h) (Or.inl ⟨by rfl, ?_⟩) hHeld ?_
            · intro w' hSw; go_simp
            try simp only [Act.put, List.getElem_toArray, List.getElem_cons_succ, List.getElem_cons_zero, List.setIfInBounds_toArray, List.set_cons_zero, List.set_cons_succ]
            refine wpAnyH_take (i := 10) (v := .int .i64 ((i : Int))) rfl (by kernel_rfl) (by kernel_rfl) (by kernel_rfl) (fun _ _ _ h => h) (Or.inl ⟨by rfl, ?_⟩) hHeld ?_
            · intro w' hSw; go_simp
            try simp only [Act.put, List.getElem_toArray, List.getElem_cons_succ, List.getElem_cons_zero, List.setIfInBounds_toArray, List.set_cons_zero, List.set_cons_succ]
            refine wpAnyH_take (i := 11) (v := .pointer (some ⟨bx, ox + i * 3, none⟩)) rfl (by kernel_rfl) (by kernel_rfl) (by kernel_rfl) (fun _ _ _ h => h) (Or.inl ⟨by rfl, ?_⟩) hHeld ?_
            · intro w' hSw; go_simp
            try simp only [Act.put, List.getElem_toArray, List.getElem_cons_succ, List.getElem_cons_zero, List.setIfInBounds_toArray, List.set_cons_zero, List.set_cons_succ]
            refine wpAnyH_take (i := 12) (v := .agg #[.int .i64 x.kind, .int .i64 x.n, .string ⟨x.s.toArray⟩]) rfl (by kernel_rfl) (by kernel_rfl) (by kernel_rfl) (fun _ _ _ h => h) (Or.inl ⟨by rfl, ?_⟩) hHeld ?_
            · intro w' hSw; obtain ⟨z0, z1, z2⟩ := (Hgxq.out.agree (.below hSw (Nat.le_refl _)) (Nat.zero_le _) hbxq).c3; go_simp
            try simp only [Act.put, List.getElem_toArray, List.getElem_cons_succ, List.getElem_cons_zero, List.setIfInBounds_toArray, List.set_cons_zero, List.set_cons_succ]
            refine wpAnyH_ready (rs := [13]) (by kernel_rfl) (by simp) ?_
            refine allCall (f := 79) (args := #[y.agg, x.agg]) rfl (by kernel_rfl) (by kernel_rfl) ?_ AllReadyH.nil
            refine refCompare_any y x wq.drew Hys.out Hxs.out _ (fun wp hBq => ?_)
            refine ⟨_, rfl, hS0.trans (hBq.mono (Nat.le_refl _)), ?_⟩
            have HH := Lib.hid (hS0.trans (hBq.mono (Nat.le_refl _)))
            clear hBq hHeld
            have hHeld := HH.out
            rw [h3]
            try simp only [Act.put, List.getElem_toArray, List.getElem_cons_succ, List.getElem_cons_zero, List.setIfInBounds_toArray, List.set_cons_zero, List.set_cons_succ]
            refine wpAnyH_take (i := 14) (v := .bool true) rfl (by kernel_rfl) (by kernel_rfl) (by kernel_rfl) (fun _ _ _ h => h) (Or.inl ⟨by rfl, ?_⟩) hHeld ?_
            · intro w' hSw; go_simp
            try simp only [Act.put, List.getElem_toArray, List.getElem_cons_succ, List.getElem_cons_zero, List.setIfInBounds_toArray, List.set_cons_zero, List.set_cons_succ]
            refine wpAnyH_take (i := 15) (v := .bool true) rfl (by kernel_rfl) (by kernel_rfl) (by kernel_rfl) (fun _ _ _ h => h) (Or.inl ⟨by rfl, ?_⟩) hHeld ?_
            · intro w' hSw; go_simp
            try simp only [Act.put, List.getElem_toArray, List.getElem_cons_succ, List.getElem_cons_zero, List.setIfInBounds_toArray, List.set_cons_zero, List.set_cons_succ]
            refine wpAnyH_done (by kernel_rfl) ?_ _
            clear hHeld
            have Hn : Hid (canonL cmpV (l.take (i + 1)) = out) := Lib.hid (by rw [Hst.out, Heq.out h3])
            clear h3
            go_wp2_with fail
            go_roundw
            case rel => exact ⟨i + 1, by omega, by go_num, HB.out.trans ((HBi.out.trans (HHa.out.trans (HH.out.mono hzq) |>.mono hzi)).mono hz), by rw [Hn.out]; exact Own.kept (Own.kept Hoi.out HHa.out) HH.out⟩
            case measure => simp [intOf]; omega
          · have hS0 : Below wi.heap.size wi wi.drew := (Below.refl _ _).drew
            refine wp_region_held_drew (S := fun w' => Below wi.heap.size wi w') (by kernel_rfl) hS0 (fun hHeld => ?_)
            refine wpAnyH_take (i := 0) (v := .int .i64 ((a : Int))) rfl (by kernel_rfl) (by kernel_rfl) (by kernel_rfl) (fun _ _ _ h => h) (Or.inl ⟨by rfl, ?_⟩) hHeld ?_
            · intro w' hSw; go_simp
            try simp only [Act.put, List.getElem_toArray, List.getElem_cons_succ, List.getElem_cons_zero, List.setIfInBounds_toArray, List.set_cons_zero, List.set_cons_succ]
            refine wpAnyH_take (i := 1) (v := .slice (some ⟨bo, oo, none⟩) m co) rfl (by kernel_rfl) (by kernel_rfl) (by kernel_rfl) (fun _ _ _ h => h) (Or.inl ⟨by rfl, ?_⟩) hHeld ?_
            · intro w' hSw; go_simp
            try simp only [Act.put, List.getElem_toArray, List.getElem_cons_succ, List.getElem_cons_zero, List.setIfInBounds_toArray, List.set_cons_zero, List.set_cons_succ]
            refine wpAnyH_take (i := 2) (v := .int .i64 ((m : Int))) rfl (by kernel_rfl) (by kernel_rfl) (by kernel_rfl) (fun _ _ _ h => h) (Or.inl ⟨by rfl, ?_⟩) hHeld ?_
            · intro w' hSw; go_simp
            try simp only [Act.put, List.getElem_toArray, List.getElem_cons_succ, List.getElem_cons_zero, List.setIfInBounds_toArray, List.set_cons_zero, List.set_cons_succ]
            refine wpAnyH_take (i := 3) (v := .bool true) rfl (by kernel_rfl) (by kernel_rfl) (by kernel_rfl) (fun _ _ _ h => h) (Or.inl ⟨by rfl, ?_⟩) hHeld ?_
            · intro w' hSw; go_simp
            try simp only [Act.put, List.getElem_toArray, List.getElem_cons_succ, List.getElem_cons_zero, List.setIfInBounds_toArray, List.set_cons_zero, List.set_cons_succ]
            refine wpAnyH_take (i := 4) (v := .bool true) rfl (by kernel_rfl) (by kernel_rfl) (by kernel_rfl) (fun _ _ _ h => h) (Or.inl ⟨by rfl, ?_⟩) hHeld ?_
            · intro w' hSw; go_simp
            try simp only [Act.put, List.getElem_toArray, List.getElem_cons_succ, List.getElem_cons_zero, List.setIfInBounds_toArray, List.set_cons_zero, List.set_cons_succ]
            refine wpAnyH_take (i := 5) (v := .slice (some ⟨bo, oo, none⟩) m co) rfl (by kernel_rfl) (by kernel_rfl) (by kernel_rfl) (fun _ _ _ h => h) (Or.inl ⟨by rfl, ?_⟩) hHeld ?_
            · intro w' hSw; go_simp
            try simp only [Act.put, List.getElem_toArray, List.getElem_cons_succ, List.getElem_cons_zero, List.setIfInBounds_toArray, List.set_cons_zero, List.set_cons_succ]
            refine wpAnyH_take (i := 6) (v := .int .i64 ((a : Int))) rfl (by kernel_rfl) (by kernel_rfl) (by kernel_rfl) (fun _ _ _ h => h) (Or.inl ⟨by rfl, ?_⟩) hHeld ?_
            · intro w' hSw; go_simp
            try simp only [Act.put, List.getElem_toArray, List.getElem_cons_succ, List.getElem_cons_zero, List.setIfInBounds_toArray, List.set_cons_zero, List.set_cons_succ]
            refine wpAnyH_take (i := 7) (v := .pointer (some ⟨bo, oo + a * 3, none⟩)) rfl (by kernel_rfl) (by kernel_rfl) (by kernel_rfl) (fun _ _ _ h => h) (Or.inl ⟨by rfl, ?_⟩) hHeld ?_
            · intro w' hSw; go_simp
            try simp only [Act.put, List.getElem_toArray, List.getElem_cons_succ, List.getElem_cons_zero, List.setIfInBounds_toArray, List.set_cons_zero, List.set_cons_succ]
            refine wpAnyH_take (i := 8) (v := .agg #[.int .i64 y.kind, .int .i64 y.n, .string ⟨y.s.toArray⟩]) rfl (by kernel_rfl) (by kernel_rfl) (by kernel_rfl) (fun _ _ _ h => h) (Or.inl ⟨by rfl, ?_⟩) hHeld ?_
            · intro w' hSw; obtain ⟨z0, z1, z2⟩ := (Hgy.out.agree (.below hSw (Nat.le_refl _)) (Nat.zero_le _) hbow).c3; go_simp
            try simp only [Act.put, List.getElem_toArray, List.getElem_cons_succ, List.getElem_cons_zero, List.setIfInBounds_toArray, List.set_cons_zero, List.set_cons_succ]
            refine wpAnyH_take (i := 9) (v := .slice (some ⟨bx, ox, none⟩) n cx) rfl (by kernel_rfl) (by kernel_rfl) (by kernel_rfl) (fun _ _ _ h => h) (Or.inl ⟨by rfl, ?_⟩) hHeld ?_
            · intro w' hSw; go_simp
            try simp only [Act.put, List.getElem_toArray, List.getElem_cons_succ, List.getElem_cons_zero, List.setIfInBounds_toArray, List.set_cons_zero, List.set_cons_succ]
            refine wpAnyH_take (i := 10) (v := .int .i64 ((i : Int))) rfl (by kernel_rfl) (by kernel_rfl) (by kernel_rfl) (fun _ _ _ h => h) (Or.inl ⟨by rfl, ?_⟩) hHeld ?_
            · intro w' hSw; go_simp
            try simp only [Act.put, List.getElem_toArray, List.getElem_cons_succ, List.getElem_cons_zero, List.setIfInBounds_toArray, List.set_cons_zero, List.set_cons_succ]
            refine wpAnyH_take (i := 11) (v := .pointer (some ⟨bx, ox + i * 3, none⟩)) rfl (by kernel_rfl) (by kernel_rfl) (by kernel_rfl) (fun _ _ _ h => h) (Or.inl ⟨by rfl, ?_⟩) hHeld ?_
            · intro w' hSw; go_simp
            try simp only [Act.put, List.getElem_toArray, List.getElem_cons_succ, List.getElem_cons_zero, List.setIfInBounds_toArray, List.set_cons_zero, List.set_cons_succ]
            refine wpAnyH_take (i := 12) (v := .agg #[.int .i64 x.kind, .int .i64 x.n, .string ⟨x.s.toArray⟩]) rfl (by kernel_rfl) (by kernel_rfl) (by kernel_rfl) (fun _ _ _ h => h) (Or.inl ⟨by rfl, ?_⟩) hHeld ?_
            · intro w' hSw; obtain ⟨z0, z1, z2⟩ := (Hgxi.out.agree (.below hSw (Nat.le_refl _)) (Nat.zero_le _) (by omega)).c3; go_simp
            try simp only [Act.put, List.getElem_toArray, List.getElem_cons_succ, List.getElem_cons_zero, List.setIfInBounds_toArray, List.set_cons_zero, List.set_cons_succ]
            refine wpAnyH_ready (rs := [13]) (by kernel_rfl) (by simp) ?_
            refine allCall (f := 79) (args := #[y.agg, x.agg]) rfl (by kernel_rfl) (by kernel_rfl) ?_ AllReadyH.nil
            refine refCompare_any y x wi.drew Hys.out Hxs.out _ (fun wq hBq => ?_)
            refine ⟨_, rfl, hS0.trans (hBq.mono (Nat.le_refl _)), ?_⟩
            have HH := Lib.hid (hS0.trans (hBq.mono (Nat.le_refl _)))
            clear hBq hHeld
            have hHeld := HH.out
            rw [h3]
            try simp only [Act.put, List.getElem_toArray, List.getElem_cons_succ, List.getElem_cons_zero, List.setIfInBounds_toArray, List.set_cons_zero, List.set_cons_succ]
            refine wpAnyH_take (i := 14) (v := .bool false) rfl (by kernel_rfl) (by kernel_rfl) (by kernel_rfl) (fun _ _ _ h => h) (Or.inl ⟨by rfl, ?_⟩) hHeld ?_
            · intro w' hSw; go_simp
            try simp only [Act.put, List.getElem_toArray, List.getElem_cons_succ, List.getElem_cons_zero, List.setIfInBounds_toArray, List.set_cons_zero, List.set_cons_succ]
            refine wpAnyH_take (i := 15) (v := .bool false) rfl (by kernel_rfl) (by kernel_rfl) (by kernel_rfl) (fun _ _ _ h => h) (Or.inl ⟨by rfl, ?_⟩) hHeld ?_
            · intro w' hSw; go_simp
            try simp only [Act.put, List.getElem_toArray, List.getElem_cons_succ, List.getElem_cons_zero, List.setIfInBounds_toArray, List.set_cons_zero, List.set_cons_succ]
            refine wpAnyH_done (by kernel_rfl) ?_ _
            clear hHeld
            go_upto_region 8 with fail
            have HHa := HH
            have hzq := HH.out.size
            have Hgyq := Lib.hid (Hgy.out.agree (.below HH.out (Nat.le_refl _)) (Nat.zero_le _) hbow)
            have Hgxq := Lib.hid (Hgxi.out.agree (.below HH.out (Nat.le_refl _)) (Nat.zero_le _) (by omega))
            have hboq : bo < wq.heap.size := by omega
            have hbxq : bx < wq.heap.size := by omega
            have hS0 : Below wq.heap.size wq wq.drew := (Below.refl _ _).drew
            refine wp_region_held_drew (S := fun w' => Below wq.heap.size wq w') (by kernel_rfl) hS0 (fun hHeld => ?_)
            refine wpAnyH_take (i := 0) (v := .int .i64 ((a : Int))) rfl (by kernel_rfl) (by kernel_rfl) (by kernel_rfl) (fun _ _ _ h => h) (Or.inl ⟨by rfl, ?_⟩) hHeld ?_
            · intro w' hSw; go_simp
            try simp only [Act.put, List.getElem_toArray, List.getElem_cons_succ, List.getElem_cons_zero, List.setIfInBounds_toArray, List.set_cons_zero, List.set_cons_succ]
            refine wpAnyH_take (i := 1) (v := .slice (some ⟨bo, oo, none⟩) m co) rfl (by kernel_rfl) (by kernel_rfl) (by kernel_rfl) (fun _ _ _ h => h) (Or.inl ⟨by rfl, ?_⟩) hHeld ?_
            · intro w' hSw; go_simp
            try simp only [Act.put, List.getElem_toArray, List.getElem_cons_succ, List.getElem_cons_zero, List.setIfInBounds_toArray, List.set_cons_zero, List.set_cons_succ]
            refine wpAnyH_take (i := 2) (v := .int .i64 ((m : Int))) rfl (by kernel_rfl) (by kernel_rfl) (by kernel_rfl) (fun _ _ _ h => h) (Or.inl ⟨by rfl, ?_⟩) hHeld ?_
            · intro w' hSw; go_simp
            try simp only [Act.put, List.getElem_toArray, List.getElem_cons_succ, List.getElem_cons_zero, List.setIfInBounds_toArray, List.set_cons_zero, List.set_cons_succ]
            refine wpAnyH_take (i := 3) (v := .bool true) rfl (by kernel_rfl) (by kernel_rfl) (by kernel_rfl) (fun _ _ _ h => h) (Or.inl ⟨by rfl, ?_⟩) hHeld ?_
            · intro w' hSw; go_simp
            try simp only [Act.put, List.getElem_toArray, List.getElem_cons_succ, List.getElem_cons_zero, List.setIfInBounds_toArray, List.set_cons_zero, List.set_cons_succ]
            refine wpAnyH_take (i := 4) (v := .bool true) rfl (by kernel_rfl) (by kernel_rfl) (by kernel_rfl) (fun _ _ _ h => h) (Or.inl ⟨by rfl, ?_⟩) hHeld ?_
            · intro w' hSw; go_simp
            try simp only [Act.put, List.getElem_toArray, List.getElem_cons_succ, List.getElem_cons_zero, List.setIfInBounds_toArray, List.set_cons_zero, List.set_cons_succ]
            refine wpAnyH_take (i := 5) (v := .slice (some ⟨bo, oo, none⟩) m co) rfl (by kernel_rfl) (by kernel_rfl) (by kernel_rfl) (fun _ _ _ h => h) (Or.inl ⟨by rfl, ?_⟩) hHeld ?_
            · intro w' hSw; go_simp
            try simp only [Act.put, List.getElem_toArray, List.getElem_cons_succ, List.getElem_cons_zero, List.setIfInBounds_toArray, List.set_cons_zero, List.set_cons_succ]
            refine wpAnyH_take (i := 6) (v := .int .i64 ((a : Int))) rfl (by kernel_rfl) (by kernel_rfl) (by kernel_rfl) (fun _ _ _ h => h) (Or.inl ⟨by rfl, ?_⟩) hHeld ?_
            · intro w' hSw; go_simp
            try simp only [Act.put, List.getElem_toArray, List.getElem_cons_succ, List.getElem_cons_zero, List.setIfInBounds_toArray, List.set_cons_zero, List.set_cons_succ]
            refine wpAnyH_take (i := 7) (v := .pointer (some ⟨bo, oo + a * 3, none⟩)) rfl (by kernel_rfl) (by kernel_rfl) (by kernel_rfl) (fun _ _ _ h => h) (Or.inl ⟨by rfl, ?_⟩) hHeld ?_
            · intro w' hSw; go_simp
            try simp only [Act.put, List.getElem_toArray, List.getElem_cons_succ, List.getElem_cons_zero, List.setIfInBounds_toArray, List.set_cons_zero, List.set_cons_succ]
            refine wpAnyH_take (i := 8) (v := .agg #[.int .i64 y.kind, .int .i64 y.n, .string ⟨y.s.toArray⟩]) rfl (by kernel_rfl) (by kernel_rfl) (by kernel_rfl) (fun _ _ _ h => h) (Or.inl ⟨by rfl, ?_⟩) hHeld ?_
            · intro w' hSw; obtain ⟨z0, z1, z2⟩ := (Hgyq.out.agree (.below hSw (Nat.le_refl _)) (Nat.zero_le _) hboq).c3; go_simp
            try simp only [Act.put, List.getElem_toArray, List.getElem_cons_succ, List.getElem_cons_zero, List.setIfInBounds_toArray, List.set_cons_zero, List.set_cons_succ]
            refine wpAnyH_take (i := 9) (v := .slice (some ⟨bx, ox, none⟩) n cx) rfl (by kernel_rfl) (by kernel_rfl) (by kernel_rfl) (fun _ _ _ h => h) (Or.inl ⟨by rfl, ?_⟩) hHeld ?_
            · intro w' hSw; go_simp
            try simp only [Act.put, List.getElem_toArray, List.getElem_cons_succ, List.getElem_cons_zero, List.setIfInBounds_toArray, List.set_cons_zero, List.set_cons_succ]
            refine wpAnyH_take (i := 10) (v := .int .i64 ((i : Int))) rfl (by kernel_rfl) (by kernel_rfl) (by kernel_rfl) (fun _ _ _ h => h) (Or.inl ⟨by rfl, ?_⟩) hHeld ?_
            · intro w' hSw; go_simp
            try simp only [Act.put, List.getElem_toArray, List.getElem_cons_succ, List.getElem_cons_zero, List.setIfInBounds_toArray, List.set_cons_zero, List.set_cons_succ]
            refine wpAnyH_take (i := 11) (v := .pointer (some ⟨bx, ox + i * 3, none⟩)) rfl (by kernel_rfl) (by kernel_rfl) (by kernel_rfl) (fun _ _ _ h => h) (Or.inl ⟨by rfl, ?_⟩) hHeld ?_
            · intro w' hSw; go_simp
            try simp only [Act.put, List.getElem_toArray, List.getElem_cons_succ, List.getElem_cons_zero, List.setIfInBounds_toArray, List.set_cons_zero, List.set_cons_succ]
            refine wpAnyH_take (i := 12) (v := .agg #[.int .i64 x.kind, .int .i64 x.n, .string ⟨x.s.toArray⟩]) rfl (by kernel_rfl) (by kernel_rfl) (by kernel_rfl) (fun _ _ _ h => h) (Or.inl ⟨by rfl, ?_⟩) hHeld ?_
            · intro w' hSw; obtain ⟨z0, z1, z2⟩ := (Hgxq.out.agree (.below hSw (Nat.le_refl _)) (Nat.zero_le _) hbxq).c3; go_simp
            try simp only [Act.put, List.getElem_toArray, List.getElem_cons_succ, List.getElem_cons_zero, List.setIfInBounds_toArray, List.set_cons_zero, List.set_cons_succ]
            refine wpAnyH_ready (rs := [13]) (by kernel_rfl) (by simp) ?_
            refine allCall (f := 79) (args := #[y.agg, x.agg]) rfl (by kernel_rfl) (by kernel_rfl) ?_ AllReadyH.nil
            refine refCompare_any y x wq.drew Hys.out Hxs.out _ (fun wp hBq => ?_)
            refine ⟨_, rfl, hS0.trans (hBq.mono (Nat.le_refl _)), ?_⟩
            have HH := Lib.hid (hS0.trans (hBq.mono (Nat.le_refl _)))
            clear hBq hHeld
            have hHeld := HH.out
            rw [h3]
            try simp only [Act.put, List.getElem_toArray, List.getElem_cons_succ, List.getElem_cons_zero, List.setIfInBounds_toArray, List.set_cons_zero, List.set_cons_succ]
            refine wpAnyH_take (i := 14) (v := .bool false) rfl (by kernel_rfl) (by kernel_rfl) (by kernel_rfl) (fun _ _ _ h => h) (Or.inl ⟨by rfl, ?_⟩) hHeld ?_
            · intro w' hSw; go_simp
            try simp only [Act.put, List.getElem_toArray, List.getElem_cons_succ, List.getElem_cons_zero, List.setIfInBounds_toArray, List.set_cons_zero, List.set_cons_succ]
            refine wpAnyH_take (i := 15) (v := .bool false) rfl (by kernel_rfl) (by kernel_rfl) (by kernel_rfl) (fun _ _ _ h => h) (Or.inl ⟨by rfl, ?_⟩) hHeld ?_
            · intro w' hSw; go_simp
            try simp only [Act.put, List.getElem_toArray, List.getElem_cons_succ, List.getElem_cons_zero, List.setIfInBounds_toArray, List.set_cons_zero, List.set_cons_succ]
            refine wpAnyH_done (by kernel_rfl) ?_ _
            clear hHeld
            have Hn : Hid (canonL cmpV (l.take (i + 1)) = out.take a ++ [x] ++ out.drop a) := Lib.hid (by rw [Hst.out, Hgt.out (by omega)])
            have HBk := Lib.hid (HB.out.trans ((HBi.out.trans (HHa.out.trans (HH.out.mono hzq) |>.mono hzi)).mono hz))
            have Hok := Lib.hid (Own.kept (Own.kept Hoi.out HHa.out) HH.out)
            have Hgxk := Lib.hid (Hgxq.out.agree (.below HH.out (Nat.le_refl _)) (Nat.zero_le _) hbxq)
            clear h3
            have hmo : out.length = m := Hm.out.symm
            have hwp := HBk.out.size
            obtain ⟨gx0, gx1, gx2⟩ := Hgxk.out.c3
            have hok := OwnV.sl Hok.out
            rw [Hm.out] at hok
            obtain ⟨s1, hrun1, hs1⟩ := Sl.upTo hok 35 Tryz.underlying35 size_Vs a (by omega)
            obtain ⟨v1, w1, hr1, ho1, ha1⟩ := appWL (lo := wp.heap.size) (Own.nil V.enc 44 3 wp.heap.size wp) hs1 (by simp only [List.length_nil, List.length_take]; omega) (Nat.le_refl _)
            rw [List.nil_append] at ho1
            have hB1 : Below wp.heap.size wp w1 := ha1.below (Nat.le_refl _) (fun k e => by cases e)
            have hz1 := hB1.size
            obtain ⟨v2, w2, hr2, ho2, ha2⟩ := appW1 ho1 x rfl (by rw [List.length_take]; omega) hz1
            have hB2 : Below wp.heap.size wp w2 := hB1.trans (ha2.below (B := wp.heap.size) hz1 (fun k e => (Own.lt ho1 k e).1))
            have hz2 := hB2.size
            obtain ⟨s3, hrun3, hs3⟩ := Sl.fromOn (Sl.below hok Row1.loc hB2 (Nat.le_refl _)) 35 Tryz.underlying35 size_Vs a (by omega)
            obtain ⟨v3, w3, hr3, ho3, ha3⟩ := appWL ho2 hs3 (by simp only [List.length_append, List.length_take, List.length_drop, List.length_cons, List.length_nil]; omega) hz2
            have hB3 : Below wp.heap.size wp w3 := hB2.trans (ha3.below (B := wp.heap.size) hz2 (fun k e => (Own.lt ho2 k e).1))
            have HB3 := Lib.hid (HBk.out.trans (hB3.mono hwp))
            have Ho3 : Hid (OwnV w.heap.size w3 v3 (canonL cmpV (l.take (i + 1)))) := Lib.hid (by
              rw [Hn.out]
              have := Own.lower ho3 hwp
              exact this)
            obtain ⟨gy0, gy1, gy2⟩ := (Hgxk.out.agree (.below hB1 (Nat.le_refl _)) (Nat.zero_le _) (by omega)).c3
            rw [← Hm.out] at hrun1 hrun3
            obtain ⟨p1, c1, e1'⟩ := Own.slice ho1
            obtain ⟨p2, c2, e2'⟩ := Own.slice ho2
            obtain ⟨p3, c3, e3'⟩ := Own.slice ho3
            subst e1' e2' e3'
            clear ho1 ha1 hB1 hs1 ho2 ha2 hB2 hs3 ho3 ha3 hB3 hok
            generalize (out.take a).length = n1 at *
            generalize (out.take a ++ [x]).length = n2 at *
            generalize (out.take a ++ [x] ++ out.drop a).length = n3 at *
            go_wp2_with (at_builtin; refine AtApp.of ?_)
            refine AtApp.go hr1 rfl rfl rfl rfl ?_
            go_wp2_with (at_builtin; refine AtApp.of ?_)
            refine AtApp.go hr2 rfl rfl rfl rfl ?_
            go_wp2_with (at_builtin; refine AtApp.of ?_)
            refine AtApp.go hr3 rfl rfl rfl rfl ?_
            go_wp2_with fail
            go_roundw
            case rel => exact ⟨i + 1, by omega, by go_num, HB3.out, Ho3.out⟩
            case measure => simp [intOf]; omega
        · obtain rfl : a = m := by omega
          have nlt : ¬ ((a : Nat) : Int) < (a : Int) := by omega
          have Hn : Hid (canonL cmpV (l.take (i + 1)) = out.take a ++ [x] ++ out.drop a) := Lib.hid (by
            rw [Hst.out]
            exact insR_at cmpV_cmp x out a (by rw [← Hm.out]; exact Nat.le_refl _) (fun j hj hja => by rw [← Hm.out] at hj; omega) Hbf.out)
          go_upto_region 6 with fail
          have hS0 : Below wi.heap.size wi wi.drew := (Below.refl _ _).drew
          refine wp_region_held_drew (S := fun w' => Below wi.heap.size wi w') (by kernel_rfl) hS0 (fun hHeld => ?_)
          refine wpAnyH_take (i := 0) (v := .int .i64 ((a : Int))) rfl (by kernel_rfl) (by kernel_rfl) (by kernel_rfl) (fun _ _ _ h => h) (Or.inl ⟨by rfl, ?_⟩) hHeld ?_
          · intro w' hSw; go_simp
          try simp only [Act.put, List.getElem_toArray, List.getElem_cons_succ, List.getElem_cons_zero, List.setIfInBounds_toArray, List.set_cons_zero, List.set_cons_succ]
          refine wpAnyH_take (i := 1) (v := .slice po a co) rfl (by kernel_rfl) (by kernel_rfl) (by kernel_rfl) (fun _ _ _ h => h) (Or.inl ⟨by rfl, ?_⟩) hHeld ?_
          · intro w' hSw; go_simp
          try simp only [Act.put, List.getElem_toArray, List.getElem_cons_succ, List.getElem_cons_zero, List.setIfInBounds_toArray, List.set_cons_zero, List.set_cons_succ]
          refine wpAnyH_take (i := 2) (v := .int .i64 ((a : Int))) rfl (by kernel_rfl) (by kernel_rfl) (by kernel_rfl) (fun _ _ _ h => h) (Or.inl ⟨by rfl, ?_⟩) hHeld ?_
          · intro w' hSw; go_simp
          try simp only [Act.put, List.getElem_toArray, List.getElem_cons_succ, List.getElem_cons_zero, List.setIfInBounds_toArray, List.set_cons_zero, List.set_cons_succ]
          refine wpAnyH_take (i := 3) (v := .bool false) rfl (by kernel_rfl) (by kernel_rfl) (by kernel_rfl) (fun _ _ _ h => h) (Or.inl ⟨by rfl, ?_⟩) hHeld ?_
          · intro w' hSw; go_simp
          try simp only [Act.put, List.getElem_toArray, List.getElem_cons_succ, List.getElem_cons_zero, List.setIfInBounds_toArray, List.set_cons_zero, List.set_cons_succ]
          refine wpAnyH_take (i := 4) (v := .bool false) rfl (by kernel_rfl) (by kernel_rfl) (by kernel_rfl) (fun _ _ _ h => h) (Or.inl ⟨by rfl, ?_⟩) hHeld ?_
          · intro w' hSw; go_simp
          try simp only [Act.put, List.getElem_toArray, List.getElem_cons_succ, List.getElem_cons_zero, List.setIfInBounds_toArray, List.set_cons_zero, List.set_cons_succ]
          refine wpAnyH_take (i := 5) (v := undef) rfl (by kernel_rfl) (by kernel_rfl) (by kernel_rfl) (fun _ _ _ h => h) (Or.inr ⟨by kernel_rfl, rfl⟩) hHeld ?_
          try simp only [Act.put, List.getElem_toArray, List.getElem_cons_succ, List.getElem_cons_zero, List.setIfInBounds_toArray, List.set_cons_zero, List.set_cons_succ]
          refine wpAnyH_take (i := 6) (v := undef) rfl (by kernel_rfl) (by kernel_rfl) (by kernel_rfl) (fun _ _ _ h => h) (Or.inr ⟨by kernel_rfl, rfl⟩) hHeld ?_
          try simp only [Act.put, List.getElem_toArray, List.getElem_cons_succ, List.getElem_cons_zero, List.setIfInBounds_toArray, List.set_cons_zero, List.set_cons_succ]
          refine wpAnyH_take (i := 7) (v := undef) rfl (by kernel_rfl) (by kernel_rfl) (by kernel_rfl) (fun _ _ _ h => h) (Or.inr ⟨by kernel_rfl, rfl⟩) hHeld ?_
          try simp only [Act.put, List.getElem_toArray, List.getElem_cons_succ, List.getElem_cons_zero, List.setIfInBounds_toArray, List.set_cons_zero, List.set_cons_succ]
          refine wpAnyH_take (i := 8) (v := undef) rfl (by kernel_rfl) (by kernel_rfl) (by kernel_rfl) (fun _ _ _ h => h) (Or.inr ⟨by kernel_rfl, rfl⟩) hHeld ?_
          try simp only [Act.put, List.getElem_toArray, List.getElem_cons_succ, List.getElem_cons_zero, List.setIfInBounds_toArray, List.set_cons_zero, List.set_cons_succ]
          refine wpAnyH_take (i := 9) (v := undef) rfl (by kernel_rfl) (by kernel_rfl) (by kernel_rfl) (fun _ _ _ h => h) (Or.inr ⟨by kernel_rfl, rfl⟩) hHeld ?_
          try simp only [Act.put, List.getElem_toArray, List.getElem_cons_succ, List.getElem_cons_zero, List.setIfInBounds_toArray, List.set_cons_zero, List.set_cons_succ]
          refine wpAnyH_take (i := 10) (v := undef) rfl (by kernel_rfl) (by kernel_rfl) (by kernel_rfl) (fun _ _ _ h => h) (Or.inr ⟨by kernel_rfl, rfl⟩) hHeld ?_
          try simp only [Act.put, List.getElem_toArray, List.getElem_cons_succ, List.getElem_cons_zero, List.setIfInBounds_toArray, List.set_cons_zero, List.set_cons_succ]
          refine wpAnyH_take (i := 11) (v := undef) rfl (by kernel_rfl) (by kernel_rfl) (by kernel_rfl) (fun _ _ _ h => h) (Or.inr ⟨by kernel_rfl, rfl⟩) hHeld ?_
          try simp only [Act.put, List.getElem_toArray, List.getElem_cons_succ, List.getElem_cons_zero, List.setIfInBounds_toArray, List.set_cons_zero, List.set_cons_succ]
          refine wpAnyH_take (i := 12) (v := undef) rfl (by kernel_rfl) (by kernel_rfl) (by kernel_rfl) (fun _ _ _ h => h) (Or.inr ⟨by kernel_rfl, rfl⟩) hHeld ?_
          try simp only [Act.put, List.getElem_toArray, List.getElem_cons_succ, List.getElem_cons_zero, List.setIfInBounds_toArray, List.set_cons_zero, List.set_cons_succ]
          refine wpAnyH_take (i := 13) (v := undef) rfl (by kernel_rfl) (by kernel_rfl) (by kernel_rfl) (fun _ _ _ h => h) (Or.inr ⟨by kernel_rfl, rfl⟩) hHeld ?_
          try simp only [Act.put, List.getElem_toArray, List.getElem_cons_succ, List.getElem_cons_zero, List.setIfInBounds_toArray, List.set_cons_zero, List.set_cons_succ]
          refine wpAnyH_take (i := 14) (v := undef) rfl (by kernel_rfl) (by kernel_rfl) (by kernel_rfl) (fun _ _ _ h => h) (Or.inr ⟨by kernel_rfl, rfl⟩) hHeld ?_
          try simp only [Act.put, List.getElem_toArray, List.getElem_cons_succ, List.getElem_cons_zero, List.setIfInBounds_toArray, List.set_cons_zero, List.set_cons_succ]
          refine wpAnyH_take (i := 15) (v := .bool false) rfl (by kernel_rfl) (by kernel_rfl) (by kernel_rfl) (fun _ _ _ h => h) (Or.inl ⟨by rfl, ?_⟩) hHeld ?_
          · intro w' hSw; go_simp
          try simp only [Act.put, List.getElem_toArray, List.getElem_cons_succ, List.getElem_cons_zero, List.setIfInBounds_toArray, List.set_cons_zero, List.set_cons_succ]
          have HH := Lib.hid hHeld
          refine wpAnyH_done (by kernel_rfl) ?_ _
          clear hHeld
          go_upto_region 8 with fail
          have HHa := HH
          have hS0 : Below wi.drew.heap.size wi.drew wi.drew.drew := (Below.refl _ _).drew
          refine wp_region_held_drew (S := fun w' => Below wi.drew.heap.size wi.drew w') (by kernel_rfl) hS0 (fun hHeld => ?_)
          refine wpAnyH_take (i := 0) (v := .int .i64 ((a : Int))) rfl (by kernel_rfl) (by kernel_rfl) (by kernel_rfl) (fun _ _ _ h => h) (Or.inl ⟨by rfl, ?_⟩) hHeld ?_
          · intro w' hSw; go_simp
          try simp only [Act.put, List.getElem_toArray, List.getElem_cons_succ, List.getElem_cons_zero, List.setIfInBounds_toArray, List.set_cons_zero, List.set_cons_succ]
          refine wpAnyH_take (i := 1) (v := .slice po a co) rfl (by kernel_rfl) (by kernel_rfl) (by kernel_rfl) (fun _ _ _ h => h) (Or.inl ⟨by rfl, ?_⟩) hHeld ?_
          · intro w' hSw; go_simp
          try simp only [Act.put, List.getElem_toArray, List.getElem_cons_succ, List.getElem_cons_zero, List.setIfInBounds_toArray, List.set_cons_zero, List.set_cons_succ]
          refine wpAnyH_take (i := 2) (v := .int .i64 ((a : Int))) rfl (by kernel_rfl) (by kernel_rfl) (by kernel_rfl) (fun _ _ _ h => h) (Or.inl ⟨by rfl, ?_⟩) hHeld ?_
          · intro w' hSw; go_simp
          try simp only [Act.put, List.getElem_toArray, List.getElem_cons_succ, List.getElem_cons_zero, List.setIfInBounds_toArray, List.set_cons_zero, List.set_cons_succ]
          refine wpAnyH_take (i := 3) (v := .bool false) rfl (by kernel_rfl) (by kernel_rfl) (by kernel_rfl) (fun _ _ _ h => h) (Or.inl ⟨by rfl, ?_⟩) hHeld ?_
          · intro w' hSw; go_simp
          try simp only [Act.put, List.getElem_toArray, List.getElem_cons_succ, List.getElem_cons_zero, List.setIfInBounds_toArray, List.set_cons_zero, List.set_cons_succ]
          refine wpAnyH_take (i := 4) (v := .bool false) rfl (by kernel_rfl) (by kernel_rfl) (by kernel_rfl) (fun _ _ _ h => h) (Or.inl ⟨by rfl, ?_⟩) hHeld ?_
          · intro w' hSw; go_simp
          try simp only [Act.put, List.getElem_toArray, List.getElem_cons_succ, List.getElem_cons_zero, List.setIfInBounds_toArray, List.set_cons_zero, List.set_cons_succ]
          refine wpAnyH_take (i := 5) (v := undef) rfl (by kernel_rfl) (by kernel_rfl) (by kernel_rfl) (fun _ _ _ h => h) (Or.inr ⟨by kernel_rfl, rfl⟩) hHeld ?_
          try simp only [Act.put, List.getElem_toArray, List.getElem_cons_succ, List.getElem_cons_zero, List.setIfInBounds_toArray, List.set_cons_zero, List.set_cons_succ]
          refine wpAnyH_take (i := 6) (v := undef) rfl (by kernel_rfl) (by kernel_rfl) (by kernel_rfl) (fun _ _ _ h => h) (Or.inr ⟨by kernel_rfl, rfl⟩) hHeld ?_
          try simp only [Act.put, List.getElem_toArray, List.getElem_cons_succ, List.getElem_cons_zero, List.setIfInBounds_toArray, List.set_cons_zero, List.set_cons_succ]
          refine wpAnyH_take (i := 7) (v := undef) rfl (by kernel_rfl) (by kernel_rfl) (by kernel_rfl) (fun _ _ _ h => h) (Or.inr ⟨by kernel_rfl, rfl⟩) hHeld ?_
          try simp only [Act.put, List.getElem_toArray, List.getElem_cons_succ, List.getElem_cons_zero, List.setIfInBounds_toArray, List.set_cons_zero, List.set_cons_succ]
          refine wpAnyH_take (i := 8) (v := undef) rfl (by kernel_rfl) (by kernel_rfl) (by kernel_rfl) (fun _ _ _ h => h) (Or.inr ⟨by kernel_rfl, rfl⟩) hHeld ?_
          try simp only [Act.put, List.getElem_toArray, List.getElem_cons_succ, List.getElem_cons_zero, List.setIfInBounds_toArray, List.set_cons_zero, List.set_cons_succ]
          refine wpAnyH_take (i := 9) (v := undef) rfl (by kernel_rfl) (by kernel_rfl) (by kernel_rfl) (fun _ _ _ h => h) (Or.inr ⟨by kernel_rfl, rfl⟩) hHeld ?_
          try simp only [Act.put, List.getElem_toArray, List.getElem_cons_succ, List.getElem_cons_zero, List.setIfInBounds_toArray, List.set_cons_zero, List.set_cons_succ]
          refine wpAnyH_take (i := 10) (v := undef) rfl (by kernel_rfl) (by kernel_rfl) (by kernel_rfl) (fun _ _ _ h => h) (Or.inr ⟨by kernel_rfl, rfl⟩) hHeld ?_
          try simp only [Act.put, List.getElem_toArray, List.getElem_cons_succ, List.getElem_cons_zero, List.setIfInBounds_toArray, List.set_cons_zero, List.set_cons_succ]
          refine wpAnyH_take (i := 11) (v := undef) rfl (by kernel_rfl) (by kernel_rfl) (by kernel_rfl) (fun _ _ _ h => h) (Or.inr ⟨by kernel_rfl, rfl⟩) hHeld ?_
          try simp only [Act.put, List.getElem_toArray, List.getElem_cons_succ, List.getElem_cons_zero, List.setIfInBounds_toArray, List.set_cons_zero, List.set_cons_succ]
          refine wpAnyH_take (i := 12) (v := undef) rfl (by kernel_rfl) (by kernel_rfl) (by kernel_rfl) (fun _ _ _ h => h) (Or.inr ⟨by kernel_rfl, rfl⟩) hHeld ?_
          try simp only [Act.put, List.getElem_toArray, List.getElem_cons_succ, List.getElem_cons_zero, List.setIfInBounds_toArray, List.set_cons_zero, List.set_cons_succ]
          refine wpAnyH_take (i := 13) (v := undef) rfl (by kernel_rfl) (by kernel_rfl) (by kernel_rfl) (fun _ _ _ h => h) (Or.inr ⟨by kernel_rfl, rfl⟩) hHeld ?_
          try simp only [Act.put, List.getElem_toArray, List.getElem_cons_succ, List.getElem_cons_zero, List.setIfInBounds_toArray, List.set_cons_zero, List.set_cons_succ]
          refine wpAnyH_take (i := 14) (v := undef) rfl (by kernel_rfl) (by kernel_rfl) (by kernel_rfl) (fun _ _ _ h => h) (Or.inr ⟨by kernel_rfl, rfl⟩) hHeld ?_
          try simp only [Act.put, List.getElem_toArray, List.getElem_cons_succ, List.getElem_cons_zero, List.setIfInBounds_toArray, List.set_cons_zero, List.set_cons_succ]
          refine wpAnyH_take (i := 15) (v := .bool false) rfl (by kernel_rfl) (by kernel_rfl) (by kernel_rfl) (fun _ _ _ h => h) (Or.inl ⟨by rfl, ?_⟩) hHeld ?_
          · intro w' hSw; go_simp
          try simp only [Act.put, List.getElem_toArray, List.getElem_cons_succ, List.getElem_cons_zero, List.setIfInBounds_toArray, List.set_cons_zero, List.set_cons_succ]
          have HH := Lib.hid hHeld
          refine wpAnyH_done (by kernel_rfl) ?_ _
          clear hHeld
          have HBk := Lib.hid (HB.out.trans ((HBi.out.trans ((HHa.out.trans (HH.out.mono HHa.out.size)).mono hzi)).mono hz))
          have Hok := Lib.hid (Own.kept (Own.kept Hoi.out HHa.out) HH.out)
          have Hgxk := Lib.hid ((Hgxi.out.agree (.below HHa.out (Nat.le_refl _)) (Nat.zero_le _) (by omega)).agree (.below HH.out (Nat.le_refl _)) (Nat.zero_le _) (by have := HHa.out.size; omega))
          generalize wi.drew.drew = wk at *
          have hmo : out.length = a := Hm.out.symm
          have hwk := HBk.out.size
          obtain ⟨gx0, gx1, gx2⟩ := Hgxk.out.c3
          have hok := OwnV.sl Hok.out
          rw [Hm.out] at hok
          obtain ⟨s1, hrun1, hs1⟩ := Sl.upTo hok 35 Tryz.underlying35 size_Vs a (by omega)
          obtain ⟨v1, w1, hr1, ho1, ha1⟩ := appWL (lo := wk.heap.size) (Own.nil V.enc 44 3 wk.heap.size wk) hs1 (by simp only [List.length_nil, List.length_take]; omega) (Nat.le_refl _)
          rw [List.nil_append] at ho1
          have hB1 : Below wk.heap.size wk w1 := ha1.below (Nat.le_refl _) (fun k e => by cases e)
          have hz1 := hB1.size
          obtain ⟨v2, w2, hr2, ho2, ha2⟩ := appW1 ho1 x rfl (by rw [List.length_take]; omega) hz1
          have hB2 : Below wk.heap.size wk w2 := hB1.trans (ha2.below (B := wk.heap.size) hz1 (fun k e => (Own.lt ho1 k e).1))
          have hz2 := hB2.size
          obtain ⟨s3, hrun3, hs3⟩ := Sl.fromOn (Sl.below hok Row1.loc hB2 (Nat.le_refl _)) 35 Tryz.underlying35 size_Vs a (by omega)
          obtain ⟨v3, w3, hr3, ho3, ha3⟩ := appWL ho2 hs3 (by simp only [List.length_append, List.length_take, List.length_drop, List.length_cons, List.length_nil]; omega) hz2
          have hB3 : Below wk.heap.size wk w3 := hB2.trans (ha3.below (B := wk.heap.size) hz2 (fun k e => (Own.lt ho2 k e).1))
          have HB3 := Lib.hid (HBk.out.trans (hB3.mono hwk))
          have Ho3 : Hid (OwnV w.heap.size w3 v3 (canonL cmpV (l.take (i + 1)))) := Lib.hid (by
            rw [Hn.out]
            have := Own.lower ho3 hwk
            exact this)
          obtain ⟨gy0, gy1, gy2⟩ := (Hgxk.out.agree (.below hB1 (Nat.le_refl _)) (Nat.zero_le _) (by omega)).c3
          rw [← Hm.out] at hrun1 hrun3
          obtain ⟨p1, c1, e1'⟩ := Own.slice ho1
          obtain ⟨p2, c2, e2'⟩ := Own.slice ho2
          obtain ⟨p3, c3, e3'⟩ := Own.slice ho3
          subst e1' e2' e3'
          clear ho1 ha1 hB1 hs1 ho2 ha2 hB2 hs3 ho3 ha3 hB3 hok
          generalize (out.take a).length = n1 at *
          generalize (out.take a ++ [x]).length = n2 at *
          generalize (out.take a ++ [x] ++ out.drop a).length = n3 at *
          go_wp2_with (at_builtin; refine AtApp.of ?_)
          refine AtApp.go hr1 rfl rfl rfl rfl ?_
          go_wp2_with (at_builtin; refine AtApp.of ?_)
          refine AtApp.go hr2 rfl rfl rfl rfl ?_
          go_wp2_with (at_builtin; refine AtApp.of ?_)
          refine AtApp.go hr3 rfl rfl rfl rfl ?_
          go_wp2_with fail
          go_roundw
          case rel => exact ⟨i + 1, by omega, by go_num, HB3.out, Ho3.out⟩
          case measure => simp [intOf]; omega
    · obtain rfl : i = n := by omega
      have nln : ¬ ((i : Nat) : Int) < (i : Int) := by omega
      have ho := Hown.out
      rw [List.take_of_length_le (by rw [← Hn.out]; exact Nat.le_refl _)] at ho
      have hr := HR.out wo _ HB.out ho
      clear ho hown
      subst hpo
      go_wp2_with fail
      first | exact hr | exact fin hr rfl
end Go.Proofs.YtmconajkgjfplaaGreat
end

/- What Fold tells, in plain words. -/
section
set_option linter.unusedVariables false
set_option linter.unusedSimpArgs false
namespace Go.Proofs.YtmconajkgjfplaaGreat
open Go.RowKit
set_option linter.unusedVariables false
set_option linter.unusedSimpArgs false
def colL (rc : List S) (c : S) (g : List (List V)) : List V := g.map fun y => y.getD (placeI rc c).toNat default
def aggVs (rc : List S) (a : Ag) (g : List (List V)) : List V := if a.op = 1 then [] else colL rc a.col g
def tellG (rc : List S) (g : List (List V)) (a : Ag) : V := tellV a.op g.length (aggVs rc a g)
def errG (rc : List S) (g : List (List V)) (a : Ag) : Int := tellErr a.op (aggVs rc a g)
def okG (rc : List S) (la : List Ag) (g : List (List V)) : Bool := la.all fun a => errG rc g a == 0
def foldRow (rc : List S) (la : List Ag) (key : List V) (g : List (List V)) : List V := key ++ la.map (tellG rc g)
def foldRows (rc cols : List S) (la : List Ag) (l : List (List V)) : List (List V) := (keysL (grpK rc cols) l).map fun k => foldRow rc la k (withK (grpK rc cols) l k)
def foldOk (rc cols : List S) (la : List Ag) (l : List (List V)) : Bool := (keysL (grpK rc cols) l).all fun k => okG rc la (withK (grpK rc cols) l k)
def foldCols (cols : List S) (la : List Ag) : List S := cols ++ la.map Ag.nm
def foldErr (rc cols : List S) (la : List Ag) (l : List (List V)) : Int :=
  if rightB rc l cols && fitsB rc cols la then (if 32 < cols.length + la.length then 140 else if foldOk rc cols la l then ofErr (foldCols cols la) (foldRows rc cols la l) else 160) else 2
theorem sum_perm {l l' : List Int} (h : l.Perm l') : l.sum = l'.sum := by
  induction h with
  | nil => rfl
  | cons x _ ih => simp [ih]
  | swap x y l => simp only [List.sum_cons]; omega
  | trans _ _ h1 h2 => exact h1.trans h2
theorem total_perm {l l' : List V} (h : l.Perm l') : total l = total l' := by
  unfold total
  have h1 : l.all (fun v => v.kind == 1) = l'.all (fun v => v.kind == 1) := by
    rw [Bool.eq_iff_iff, List.all_eq_true, List.all_eq_true]
    exact ⟨fun k x hx => k x (h.mem_iff.2 hx), fun k x hx => k x (h.mem_iff.1 hx)⟩
  have h2 : (l.map V.n).sum = (l'.map V.n).sum := sum_perm (h.map V.n)
  rw [h1, h2]
theorem sortV_perm {l l' : List V} (h : l.Perm l') : sortV l = sortV l' := canon_one cmpV_cmp (fun x => h.mem_iff)
theorem tellV_perm {op : Int} {n : Nat} {l l' : List V} (h : l.Perm l') : tellV op n l = tellV op n l' := by
  unfold tellV leastV greatV
  rw [total_perm h, sortV_perm h]
theorem tellErr_perm {op : Int} {l l' : List V} (h : l.Perm l') : tellErr op l = tellErr op l' := by
  unfold tellErr
  rw [total_perm h]
theorem aggVs_perm {rc : List S} {a : Ag} {g g' : List (List V)} (h : g.Perm g') : (aggVs rc a g).Perm (aggVs rc a g') := by
  unfold aggVs
  split
  · exact List.Perm.refl _
  · exact h.map _
theorem tellG_perm {rc : List S} {g g' : List (List V)} (h : g.Perm g') : tellG rc g = tellG rc g' := by
  funext a
  unfold tellG
  rw [h.length_eq, tellV_perm (aggVs_perm h)]
theorem errG_perm {rc : List S} {g g' : List (List V)} (h : g.Perm g') : errG rc g = errG rc g' := by
  funext a
  unfold errG
  exact tellErr_perm (aggVs_perm h)
theorem tellErr_val {op : Int} {l : List V} (h : tellErr op l ≠ 0) : tellErr op l = 160 := by
  unfold tellErr at *
  split at h
  · split at h
    · exact absurd rfl h
    · rename_i h1 h2
      rw [if_pos h1, if_neg h2]
  · exact absurd rfl h
/-- A telling that fails makes the whole fail. -/
theorem fold_bad {rc cols : List S} {la : List Ag} {l : List (List V)} {k : List V} {g : List (List V)} {a : Ag} (hk : k ∈ keysL (grpK rc cols) l) (hg : g.Perm (withK (grpK rc cols) l k)) (ha : a ∈ la) (he : errG rc g a ≠ 0) : foldOk rc cols la l = false := by
  unfold foldOk
  rw [List.all_eq_false]
  refine ⟨k, hk, ?_⟩
  unfold okG
  rw [Bool.not_eq_true, List.all_eq_false]
  refine ⟨a, ha, ?_⟩
  rw [← errG_perm hg]
  simpa using he
theorem fold_good {rc cols : List S} {la : List Ag} {l : List (List V)} (h : ∀ k, k ∈ keysL (grpK rc cols) l → ∀ a ∈ la, errG rc (withK (grpK rc cols) l k) a = 0) : foldOk rc cols la l = true := by
  unfold foldOk
  rw [List.all_eq_true]
  intro k hk
  unfold okG
  rw [List.all_eq_true]
  intro a ha
  simpa using h k hk a ha
theorem fits_all {rc cols : List S} {la : List Ag} (h : fitsB rc cols la = true) : ∀ a ∈ la, 1 ≤ a.op ∧ a.op ≤ 5 ∧ (a.op ≠ 1 → 0 ≤ placeI rc a.col) := by
  intro a ha
  obtain ⟨k, hk, rfl⟩ := List.getElem_of_mem ha
  unfold fitsB at h
  have h1 := List.all_eq_true.1 h k (List.mem_range.2 hk)
  unfold fitAt at h1
  rw [getDS la _ k hk] at h1
  unfold aggBad at h1
  simp only [Bool.not_eq_true', Bool.or_eq_false_iff, Bool.and_eq_false_iff, decide_eq_false_iff_not, Bool.not_eq_false', decide_eq_true_eq] at h1
  obtain ⟨⟨⟨⟨h1, h2⟩, h3⟩, h4⟩, h5⟩ := h1
  refine ⟨by omega, by omega, fun hn => ?_⟩
  rcases h4 with h4 | h4
  · exact absurd h4 hn
  · omega
end Go.Proofs.YtmconajkgjfplaaGreat
end

/- The document's Total, and the law FoldTotals. -/
section
set_option linter.unusedVariables false
set_option linter.unusedSimpArgs false
namespace Go.Proofs.YtmconajkgjfplaaGreat
open Go.RowKit

def H32 : Int := 4294967296
theorem half_neg {n : Int} (h : n < 0) : (n.tmod 4294967296 < 0 ∧ n.tmod 4294967296 + 4294967296 = n % 4294967296 ∧ n.tdiv 4294967296 - 1 = n / 4294967296) ∨ (n.tmod 4294967296 = 0 ∧ n % 4294967296 = 0 ∧ n.tdiv 4294967296 = n / 4294967296) := by
  have hs : Int.sign 4294967296 = 1 := rfl
  rw [Int.tmod_eq_emod, Int.tdiv_eq_ediv, hs]
  split <;> simp at * <;> omega
/-- The two halves' sum, told. -/
theorem halves {a b s : Int} (h : a * H32 + b = s) : (a + b / 4294967296) * 4294967296 + b % 4294967296 = s := by unfold H32 at h; omega
theorem halves_in {a b s : Int} (h : a * H32 + b = s) : inI64 s ↔ ¬ (a + b / 4294967296 < -2147483648) ∧ ¬ (2147483648 ≤ a + b / 4294967296) := by
  unfold H32 at h; unfold inI64; omega

set_option maxRecDepth 100000 in
set_option maxHeartbeats 1000000 in
theorem refTotal_any (lo hi : Nat) (v : Value) (l : List V) (w : World) (hv : Sl (flat V.enc) 3 lo hi w v l) (hhi : hi ≤ w.heap.size) (hok : ∀ x ∈ l, x.ok) (hlen : l.length ≤ 1000) (R : Ending → World → Prop)
    (hR : ∀ w', Below w.heap.size w w' → R (.returned (totalV (total l))) w') : Calls Tryz.prog 77 #[v] w R := by
  obtain ⟨ao, cap, rfl, hl1, hl2, _, hc⟩ := hv.form
  have Hc := Lib.hid hc
  clear hc
  go_enter Tryz.func77, Tryz.ntmps77
  go_wp2_with fail
  go_loopw [4, 5, 6, 7, 8] (fun t4 t5 t6 _ _ wr => ∃ (k : Nat) (a b : Int), k ≤ l.length ∧ t4 = .int .i64 a ∧ t5 = .int .i64 b ∧ t6 = .int .i64 k ∧ (l.take k).all (fun v => v.kind == 1) = true ∧
      a * H32 + b = ((l.take k).map V.n).sum ∧ -2147483648 * (k : Int) ≤ a ∧ a ≤ 2147483648 * (k : Int) ∧ 0 ≤ b ∧ b ≤ 4294967296 * (k : Int) ∧
      Below w.heap.size w wr ∧ Blk wr w.heap.size [.int .i64 0, .int .i64 0, .string ⟨#[]⟩] 44) (fun _ _ t6 _ _ _ => l.length - (intOf t6).toNat)
  case atStart =>
    exact ⟨0, 0, 0, Nat.zero_le _, rfl, rfl, rfl, rfl, rfl, by omega, by omega, by omega, by omega, (Below.refl _ _).alloc (Nat.le_refl _) _, Blk.new _ _ _ rfl⟩
  case round =>
    obtain ⟨k, a, b, hk, rfl, rfl, rfl, hall, hs, ha1, ha2, hb1, hb2, hB, hz⟩ := hrel
    have Hall := Lib.hid hall
    have Hs := Lib.hid hs
    clear hall hs
    obtain ⟨z0, z1, z2⟩ := hz.cells.c3
    have fz0 := hz.free 0
    have fz1 := hz.free 1
    have fz2 := hz.free 2
    simp only [Nat.zero_add] at z0 z1 z2
    have hzl := hz.lt
    by_cases hlt : k < l.length
    · obtain ⟨b0, off, rfl, hb1, hb2, hcc⟩ := Hc.out k hlt
      obtain ⟨cs, _, hcs, rfl⟩ := hcc k hlt
      obtain ⟨h0, h1, h2⟩ := (hcs.agree (.below hB hhi) hb1 hb2).c3
      have hxo := hok _ (List.getElem_mem hlt)
      have hall2 := Lib.hid (all_take_succ l (fun v => v.kind == 1) k hlt)
      have hsum := Lib.hid (List.take_succ_eq_append_getElem hlt)
      clear hcc hcs
      generalize hx : l[k] = x at *
      have Hx := Lib.hid hx
      clear hx
      by_cases hkind : x.kind = 1
      · have Hk := Lib.hid hkind
        have hne : (x.kind != 1) = false := by simp [hkind]
        clear hkind
        obtain ⟨q1, q2⟩ := hxo.1
        by_cases hpos : 0 ≤ x.n
        · go_wp2_with fail
          go_roundw
          case rel => exact ⟨k + 1, a + x.n / 4294967296, b + x.n % 4294967296, by omega, rfl, rfl, by go_num, by rw [hall2.out, Hall.out]; simp [Hk.out], by rw [hsum.out, List.map_append, List.sum_append, ← Hs.out]; simp [H32]; omega, by push_cast; omega, by push_cast; omega, by omega, by push_cast; omega, hB, hz⟩
          case measure => simp [intOf]; omega
        · rcases half_neg (show x.n < 0 by omega) with ⟨g1, g2, g3⟩ | ⟨g1, g2, g3⟩
          · have b1 : -2147483648 ≤ x.n.tdiv 4294967296 ∧ x.n.tdiv 4294967296 ≤ 1 := by omega
            have b2 : -4294967296 ≤ x.n.tmod 4294967296 := by omega
            obtain ⟨b1, b1'⟩ := b1
            have G2 := Lib.hid g2
            have G3 := Lib.hid g3
            clear g2 g3
            go_wp2_with fail
            go_roundw
            case rel =>
              have e2 := G2.out
              have e3 := G3.out
              exact ⟨k + 1, _, _, by omega, rfl, rfl, by go_num, by rw [hall2.out, Hall.out]; simp [Hk.out], by rw [hsum.out, List.map_append, List.sum_append, ← Hs.out]; simp [H32]; omega, by push_cast; omega, by push_cast; omega, by omega, by push_cast; omega, hB, hz⟩
            case measure => simp [intOf]; omega
          · have b1 : -2147483648 ≤ x.n.tdiv 4294967296 ∧ x.n.tdiv 4294967296 ≤ 1 := by omega
            have b2 : 0 ≤ x.n.tmod 4294967296 ∧ x.n.tmod 4294967296 ≤ 1 := by omega
            obtain ⟨b1, b1'⟩ := b1
            obtain ⟨b2, b2'⟩ := b2
            have G1 := Lib.hid g1
            have G2 := Lib.hid g2
            have G3 := Lib.hid g3
            clear g1 g2 g3
            go_wp2_with fail
            go_roundw
            case rel =>
              have e1 := G1.out
              have e2 := G2.out
              have e3 := G3.out
              exact ⟨k + 1, _, _, by omega, rfl, rfl, by go_num, by rw [hall2.out, Hall.out]; simp [Hk.out], by rw [hsum.out, List.map_append, List.sum_append, ← Hs.out]; simp [H32]; omega, by push_cast; omega, by push_cast; omega, by omega, by push_cast; omega, hB, hz⟩
            case measure => simp [intOf]; omega
      · have hne : (x.kind != 1) = true := by simp [hkind]
        have Hk := Lib.hid hkind
        clear hkind
        have Ht : Hid (total l = none) := by
          have : l.all (fun v => v.kind == 1) = false := by
            rw [List.all_eq_false]
            exact ⟨x, Hx.out ▸ List.getElem_mem hlt, by simpa using Hk.out⟩
          simp [Hid, total, this]
        go_wp2_with fail
        rw [Ht.out] at hR
        exact ret_cell_tmp rfl rfl (((((hz.set 0 (.int .i64 0)).set 1 (.int .i64 0)).set 2 (.string ⟨#[]⟩))).cells.runVar (fun _ => by kernel_rfl) (fun _ => by kernel_rfl)) rfl rfl
          (hR _ ((((hB.setCell (p := ⟨w.heap.size, 0, none⟩) (Nat.le_refl _) _).setCell (p := ⟨w.heap.size, 1, none⟩) (Nat.le_refl _) _).setCell (p := ⟨w.heap.size, 2, none⟩) (Nat.le_refl _) _)))
    · have e : k = l.length := by omega
      subst e
      have Ha : Hid (l.all (fun v => v.kind == 1) = true) := by have := Hall.out; rwa [List.take_length] at this
      have hs := Hs.out
      rw [List.take_length] at hs
      have h1 := halves hs
      have h2 := halves_in hs
      have H1 := Lib.hid h1
      have H2 := Lib.hid h2
      clear h1 h2 hs Hs
      by_cases c1 : a + b / 4294967296 < -2147483648
      · have Ht : Hid (total l = none) := by rw [Hid, total, if_pos Ha.out, if_neg (fun h => (H2.out.1 h).1 c1)]
        go_wp2_with fail
        rw [Ht.out] at hR
        exact ret_cell_tmp rfl rfl (((((hz.set 0 (.int .i64 0)).set 1 (.int .i64 0)).set 2 (.string ⟨#[]⟩))).cells.runVar (fun _ => by kernel_rfl) (fun _ => by kernel_rfl)) rfl rfl
          (hR _ ((((hB.setCell (p := ⟨w.heap.size, 0, none⟩) (Nat.le_refl _) _).setCell (p := ⟨w.heap.size, 1, none⟩) (Nat.le_refl _) _).setCell (p := ⟨w.heap.size, 2, none⟩) (Nat.le_refl _) _)))
      by_cases c2 : 2147483648 ≤ a + b / 4294967296
      · have Ht : Hid (total l = none) := by rw [Hid, total, if_pos Ha.out, if_neg (fun h => (H2.out.1 h).2 c2)]
        go_wp2_with fail
        rw [Ht.out] at hR
        exact ret_cell_tmp rfl rfl (((((hz.set 0 (.int .i64 0)).set 1 (.int .i64 0)).set 2 (.string ⟨#[]⟩))).cells.runVar (fun _ => by kernel_rfl) (fun _ => by kernel_rfl)) rfl rfl
          (hR _ ((((hB.setCell (p := ⟨w.heap.size, 0, none⟩) (Nat.le_refl _) _).setCell (p := ⟨w.heap.size, 1, none⟩) (Nat.le_refl _) _).setCell (p := ⟨w.heap.size, 2, none⟩) (Nat.le_refl _) _)))
      · have Ht : Hid (total l = some ((a + b / 4294967296) * 4294967296 + b % 4294967296)) := by rw [Hid, total, if_pos Ha.out, if_pos (H2.out.2 ⟨c1, c2⟩), H1.out]
        go_wp2_with fail
        rw [Ht.out] at hR
        exact ret_cell_tmp rfl rfl (((((hz.set 0 (.int .i64 1)).set 1 (.int .i64 ((a + b / 4294967296) * 4294967296 + b % 4294967296))).set 2 (.string ⟨#[]⟩))).cells.runVar (fun _ => by kernel_rfl) (fun _ => by kernel_rfl)) rfl rfl
          (hR _ ((((hB.setCell (p := ⟨w.heap.size, 0, none⟩) (Nat.le_refl _) _).setCell (p := ⟨w.heap.size, 1, none⟩) (Nat.le_refl _) _).setCell (p := ⟨w.heap.size, 2, none⟩) (Nat.le_refl _) _)))

end Go.Proofs.YtmconajkgjfplaaGreat
end

/- The document's tell. (Printed by grb.py.) -/
section
set_option linter.unusedVariables false
set_option linter.unusedSimpArgs false
namespace Go.Proofs.YtmconajkgjfplaaGreat
open Go.RowKit
set_option linter.unusedVariables false
set_option linter.unusedSimpArgs false
attribute [local go_sem ↓] Go.wp_at_zero Go.wp_at_succ
theorem headD_zero : ∀ {l : List V} (h : 0 < l.length), l.headD default = l[0]
  | [], h => by cases h
  | a :: r, _ => rfl
theorem ok_len {v : V} (h : v.ok) : v.s.length ≤ 9223372036854775807 := by have := h.2.2; omega
set_option maxRecDepth 100000 in
set_option maxHeartbeats 4000000 in
theorem refTell_count (lo hi lc hc : Nat) (rc : List S) (ac : Option Addr) (cc : Nat) (g : List (List V)) (gv : Value) (op : Int) (col : S) (w : World) (hrc : Strs lc hc w (.slice ac rc.length cc) rc) (hhc : hc ≤ w.heap.size) (hv : Rws lo hi w gv g) (hhi : hi ≤ w.heap.size) (hlen : g.length ≤ 1000) (hok : ∀ x ∈ g, x.length = rc.length ∧ ∀ a ∈ x, a.ok) (hop : op = 1) (R : Ending → World → Prop)
    (hR : ∀ w', Below w.heap.size w w' → R (.returned (.tuple #[(tellG rc g ⟨op, col, []⟩).agg, .int .i64 (errG rc g ⟨op, col, []⟩)])) w') : Calls Tryz.prog 45 #[.int .i64 op, .agg #[.slice ac rc.length cc, gv], .string ⟨col.toArray⟩] w R := by
  have HR := Lib.hid hR
  have Hrc := Lib.hid hrc
  have Hv := Lib.hid hv
  have Hok := Lib.hid hok
  obtain ⟨ag, cg, rfl, -, -, -, -⟩ := hv.form
  have hrl := hrc.len
  obtain ⟨n, hn⟩ : ∃ n, n = g.length := ⟨_, rfl⟩
  rw [← hn] at hlen ⊢
  have Hn := Lib.hid hn
  clear hR hrc hv hok hn
  go_enter Tryz.func45, Tryz.ntmps45
  go_upto_region 1 with fail
  have s1 : (w.alloc (.cells #[.slice ac rc.length cc, .slice ag n cg] 50)).heap.size = w.heap.size + 1 := by simp
  have hBa := alloc_below w (.cells #[.slice ac rc.length cc, .slice ag n cg] 50)
  have hba := Blk.new w [.slice ac rc.length cc, .slice ag n cg] 50 rfl
  have hBb := alloc_below (w.alloc (.cells #[.slice ac rc.length cc, .slice ag n cg] 50)) (.cells #[.int .i64 0, .int .i64 0, .string ⟨#[]⟩] 44)
  have hbb := Blk.new (w.alloc (.cells #[.slice ac rc.length cc, .slice ag n cg] 50)) [.int .i64 0, .int .i64 0, .string ⟨#[]⟩] 44 s1.symm
  have hba := hba.below hBb hba.lt
  have hB := hBa.trans (hBb.mono hBa.size)
  obtain ⟨b6, eb6⟩ : ∃ b, b = w.heap.size + 1 := ⟨_, rfl⟩
  rw [← eb6] at hbb ⊢
  generalize (w.alloc (.cells #[.slice ac rc.length cc, .slice ag n cg] 50)).alloc (.cells #[.int .i64 0, .int .i64 0, .string ⟨#[]⟩] 44) = wa at *
  have hb6w : w.heap.size ≤ b6 := by omega
  have hzb : b6 < wa.heap.size := hbb.lt
  have HB := Lib.hid hB
  have Hb := Lib.hid hbb
  have Ha := Lib.hid hba
  have hwa : w.heap.size < wa.heap.size := by omega
  obtain ⟨c0, c1⟩ := hba.cells.c2
  simp only [Nat.zero_add] at c1
  clear s1 hBa hBb hba hbb hB eb6
  subst hop
  have hr := HR.out
  have e1 : tellG rc g ⟨1, col, []⟩ = .num (n : Int) := by rw [Hn.out]; rfl
  have e2 : errG rc g ⟨1, col, []⟩ = 0 := rfl
  rw [e1, e2] at hr
  clear e1 e2
  have hB := HB.out
  have hb := Hb.out
  have f0 := hb.free 0
  have f1 := hb.free 1
  have f2 := hb.free 2
  obtain ⟨d0, d1, d2⟩ := hb.cells.c3
  simp only [Nat.zero_add] at d1 d2
  go_wp2_with fail
  exact ret_cell_tmp rfl rfl ((((hb.set 0 (.int .i64 (V.num (n : Int)).kind)).set 1 (.int .i64 (V.num (n : Int)).n)).set 2 (.string ⟨(V.num (n : Int)).s.toArray⟩)).cells.runVar (fun _ => by kernel_rfl) (fun _ => by kernel_rfl)) rfl rfl
    (hr _ (((hB.setCell (p := ⟨b6, 0, none⟩) hb6w _).setCell (p := ⟨b6, 1, none⟩) hb6w _).setCell (p := ⟨b6, 2, none⟩) hb6w _))
set_option maxRecDepth 100000 in
set_option maxHeartbeats 8000000 in
theorem refTell_more (lo hi lc hc : Nat) (rc : List S) (ac : Option Addr) (cc : Nat) (g : List (List V)) (gv : Value) (op : Int) (col : S) (w : World) (hrc : Strs lc hc w (.slice ac rc.length cc) rc) (hhc : hc ≤ w.heap.size) (hv : Rws lo hi w gv g) (hhi : hi ≤ w.heap.size) (hlen : g.length ≤ 1000) (hok : ∀ x ∈ g, x.length = rc.length ∧ ∀ a ∈ x, a.ok) (hop1 : op ≠ 1) (hop2 : 2 ≤ op) (hop5 : op ≤ 5) (hpl : 0 ≤ placeI rc col) (hpos : 0 < g.length) (R : Ending → World → Prop)
    (hR : ∀ w', Below w.heap.size w w' → R (.returned (.tuple #[(tellG rc g ⟨op, col, []⟩).agg, .int .i64 (errG rc g ⟨op, col, []⟩)])) w') : Calls Tryz.prog 45 #[.int .i64 op, .agg #[.slice ac rc.length cc, gv], .string ⟨col.toArray⟩] w R := by
  have HR := Lib.hid hR
  have Hrc := Lib.hid hrc
  have Hv := Lib.hid hv
  have Hok := Lib.hid hok
  obtain ⟨ag, cg, rfl, -, -, -, -⟩ := hv.form
  have hrl := hrc.len
  obtain ⟨n, hn⟩ : ∃ n, n = g.length := ⟨_, rfl⟩
  rw [← hn] at hlen hpos ⊢
  have Hn := Lib.hid hn
  clear hR hrc hv hok hn
  go_enter Tryz.func45, Tryz.ntmps45
  go_upto_region 1 with fail
  have s1 : (w.alloc (.cells #[.slice ac rc.length cc, .slice ag n cg] 50)).heap.size = w.heap.size + 1 := by simp
  have hBa := alloc_below w (.cells #[.slice ac rc.length cc, .slice ag n cg] 50)
  have hba := Blk.new w [.slice ac rc.length cc, .slice ag n cg] 50 rfl
  have hBb := alloc_below (w.alloc (.cells #[.slice ac rc.length cc, .slice ag n cg] 50)) (.cells #[.int .i64 0, .int .i64 0, .string ⟨#[]⟩] 44)
  have hbb := Blk.new (w.alloc (.cells #[.slice ac rc.length cc, .slice ag n cg] 50)) [.int .i64 0, .int .i64 0, .string ⟨#[]⟩] 44 s1.symm
  have hba := hba.below hBb hba.lt
  have hB := hBa.trans (hBb.mono hBa.size)
  obtain ⟨b6, eb6⟩ : ∃ b, b = w.heap.size + 1 := ⟨_, rfl⟩
  rw [← eb6] at hbb ⊢
  generalize (w.alloc (.cells #[.slice ac rc.length cc, .slice ag n cg] 50)).alloc (.cells #[.int .i64 0, .int .i64 0, .string ⟨#[]⟩] 44) = wa at *
  have hb6w : w.heap.size ≤ b6 := by omega
  have hzb : b6 < wa.heap.size := hbb.lt
  have HB := Lib.hid hB
  have Hb := Lib.hid hbb
  have Ha := Lib.hid hba
  have hwa : w.heap.size < wa.heap.size := by omega
  obtain ⟨c0, c1⟩ := hba.cells.c2
  simp only [Nat.zero_add] at c1
  clear s1 hBa hBb hba hbb hB eb6
  have hpl2 := (placeI_lt rc col).2
  obtain ⟨P, hP⟩ : ∃ P : Nat, placeI rc col = (P : Int) := ⟨(placeI rc col).toNat, by omega⟩
  have HP := Lib.hid hP
  go_wp2_with fail
  refine place16_any lc hc rc col _ wa (Sl.below Hrc.out Strs.loc HB.out hhc) _ ?_
  rw [hP]
  rw [hP] at hpl hpl2
  clear hP
  have pp0 : (0 : Int) ≤ (P : Int) := by omega
  go_wp2_with fail
  go_loopw [9, 10] (fun t9 t10 wr => ∃ k : Nat, k ≤ n ∧ t10 = .int .i64 k ∧ Below wa.heap.size wa wr ∧ OwnV wa.heap.size wr t9 (colL rc col (g.take k))) (fun _ t10 _ => n - (intOf t10).toNat)
  case atStart => exact ⟨0, Nat.zero_le _, rfl, Below.refl _ _, Own.nil _ _ _ _ _⟩
  case round =>
    clear c0 c1
    obtain ⟨k, hk, rfl, hBk, hown⟩ := hrel
    obtain ⟨wo, ewo⟩ : ∃ x, x = wr := ⟨_, rfl⟩
    subst ewo
    have HBk := Lib.hid hBk
    have Hown := Lib.hid hown
    have hz := hBk.size
    have kk0 : (0 : Int) ≤ (k : Int) := by omega
    obtain ⟨po, co, hpo⟩ := Own.slice hown
    have hcl : (colL rc col (g.take k)).length = k := by unfold colL; rw [List.length_map, List.length_take, Nat.min_eq_left (by rw [← Hn.out]; exact hk)]
    rw [hcl] at hpo
    have Hcl := Lib.hid hcl
    subst hpo
    obtain ⟨c0, c1⟩ := (Ha.out.below hBk hwa).cells.c2
    simp only [Nat.zero_add] at c1
    clear hBk hown hcl
    by_cases hlt : k < n
    · have kkl : (k : Int) < (n : Int) := by omega
      have hkg : k < g.length := by rw [← Hn.out]; exact hlt
      obtain ⟨ao', cap', e', -, -, -, hc'⟩ := (Sl.below (Sl.below Hv.out rowE_loc HB.out hhi) rowE_loc HBk.out (by omega)).form
      injection e' with e1 e2 e3
      subst e1 e3
      obtain ⟨bg, og, rfl, hbg1, hbg2, hcc⟩ := hc' k hkg
      obtain ⟨cs, -, hcs, sv, rfl, hsv⟩ := hcc k hkg
      have k0 := hcs.c1
      rw [Nat.mul_one] at k0
      have Hgj : Hid (g.take (k + 1) = g.take k ++ [g[k]]) := Lib.hid (List.take_succ_eq_append_getElem hkg)
      have hgl := (Hok.out _ (List.getElem_mem hkg)).1
      clear hcc hcs hc' e2
      generalize g[k] = y at *
      obtain ⟨py, cy, rfl, -, -, -, hcy⟩ := hsv.form
      have hy63 := hsv.len
      have hPy : P < y.length := by omega
      have ppl : (P : Int) < (y.length : Int) := by omega
      obtain ⟨by_, oy, rfl, hby1, hby2, hcc⟩ := hcy P hPy
      obtain ⟨cs, -, hcs, ecs⟩ := hcc P hPy
      obtain rfl : cs = V.enc y[P] := ecs
      obtain ⟨y0, y1, y2⟩ := hcs.c3
      have hcol : colL rc col (g.take (k + 1)) = colL rc col (g.take k) ++ [y[P]] := by
        unfold colL
        rw [Hgj.out, List.map_append]
        simp only [List.map_cons, List.map_nil, HP.out, Int.toNat_natCast, getDS y _ P hPy]
      obtain ⟨v9, w9, hr9, ho9, ha9⟩ := appW1 Hown.out y[P] rfl (by rw [Hcl.out]; omega) hz
      have HB9 := Lib.hid (HBk.out.trans (ha9.below hz (fun q e => (Own.lt Hown.out q e).1)))
      have Hn9 : Hid (OwnV wa.heap.size w9 v9 (colL rc col (g.take (k + 1)))) := Lib.hid (by rw [hcol]; exact ho9)
      obtain ⟨p9, c9, e9⟩ := Own.slice ho9
      subst e9
      clear hsv hcy hcc hcs hcol ho9 ha9
      generalize y[P] = z at *
      generalize (colL rc col (g.take k) ++ [z]).length = n9 at *
      go_wp2_with (at_builtin; refine AtApp.of ?_)
      refine AtApp.go hr9 rfl rfl rfl rfl ?_
      go_wp2_with fail
      go_roundw
      case rel => exact ⟨k + 1, by omega, by go_num, HB9.out, Hn9.out⟩
      case measure => simp [intOf]; omega
    · obtain rfl : k = n := by omega
      have nln : ¬ ((k : Nat) : Int) < (k : Int) := by omega
      have hown := Hown.out
      rw [List.take_of_length_le (by rw [← Hn.out]; exact Nat.le_refl _)] at hown
      have Hvs := Lib.hid (OwnV.sl hown)
      have hcl2 : (colL rc col g).length = k := by unfold colL; rw [List.length_map, ← Hn.out]
      have hvpos : 0 < (colL rc col g).length := by rw [hcl2]; exact hpos
      have hvok : ∀ x ∈ colL rc col g, x.ok := by
        intro x hx
        unfold colL at hx
        obtain ⟨y, hy, rfl⟩ := List.mem_map.1 hx
        have h1 := Hok.out y hy
        rw [HP.out, Int.toNat_natCast, getDS y _ P (by omega)]
        exact h1.2 _ (List.getElem_mem _)
      have Hvok := Lib.hid hvok
      have Hcl2 := Lib.hid hcl2
      have e1 : ∀ op, op ≠ 1 → tellG rc g ⟨op, col, []⟩ = tellV op g.length (colL rc col g) := fun op h => by unfold tellG aggVs; rw [if_neg h]
      have e2 : ∀ op, op ≠ 1 → errG rc g ⟨op, col, []⟩ = tellErr op (colL rc col g) := fun op h => by unfold errG aggVs; rw [if_neg h]
      have HR1 := HR.out
      rw [e1 op hop1, e2 op hop1] at HR1
      have HR1 := Lib.hid HR1
      have HBo := Lib.hid (HB.out.trans (HBk.out.mono (by omega)))
      have hlv : (colL rc col g).length ≤ 1000 := by rw [hcl2]; exact hlen
      clear hown hvok e1 e2 hcl2 HR
      generalize colL rc col g = vs at *
      by_cases h3 : op = 3
      · subst h3
        go_wp2_with fail
        refine refTotal_any _ _ _ vs wo Hvs.out (Nat.le_refl _) Hvok.out hlv _ (fun w2 hB2 => ?_)
        have hB := HBo.out.trans (hB2.mono HBo.out.size)
        have hb := (Hb.out.below HBk.out hzb).below hB2 (by have := HBk.out.size; omega)
        clear hB2
        have f0 := hb.free 0
        have f1 := hb.free 1
        have f2 := hb.free 2
        obtain ⟨d0, d1, d2⟩ := hb.cells.c3
        simp only [Nat.zero_add] at d1 d2
        have hr := HR1.out
        have e1 : tellV 3 g.length vs = if (total vs).isSome then .num ((total vs).getD 0) else ⟨0, 0, []⟩ := rfl
        have e2 : tellErr 3 vs = if (total vs).isSome then 0 else 160 := rfl
        rw [e1, e2] at hr
        clear e1 e2
        generalize total vs = t at *
        cases t with
        | none =>
          simp only [totalV, Option.isSome_none, Option.getD_none, Bool.false_eq_true, if_false] at hr ⊢
          go_wp2_with fail
          exact ret_cell_tmp rfl rfl ((((hb.set 0 (.int .i64 (⟨0, 0, []⟩ : V).kind)).set 1 (.int .i64 (⟨0, 0, []⟩ : V).n)).set 2 (.string ⟨(⟨0, 0, []⟩ : V).s.toArray⟩)).cells.runVar (fun _ => by kernel_rfl) (fun _ => by kernel_rfl)) rfl rfl
            (hr _ (((hB.setCell (p := ⟨b6, 0, none⟩) hb6w _).setCell (p := ⟨b6, 1, none⟩) hb6w _).setCell (p := ⟨b6, 2, none⟩) hb6w _))
        | some q =>
          simp only [totalV, Option.isSome_some, Option.getD_some, if_true] at hr ⊢
          go_wp2_with fail
          exact ret_cell_tmp rfl rfl ((((hb.set 0 (.int .i64 (V.num q).kind)).set 1 (.int .i64 (V.num q).n)).set 2 (.string ⟨(V.num q).s.toArray⟩)).cells.runVar (fun _ => by kernel_rfl) (fun _ => by kernel_rfl)) rfl rfl
            (hr _ (((hB.setCell (p := ⟨b6, 0, none⟩) hb6w _).setCell (p := ⟨b6, 1, none⟩) hb6w _).setCell (p := ⟨b6, 2, none⟩) hb6w _))
      go_wp2_with fail
      refine refSorted_any _ _ vs _ wo Hvs.out (Nat.le_refl _) (by omega) (fun x hx => ok_len (Hvok.out x hx)) _ (fun w2 v2 hB2 ho2 => ?_)
      have hB := HBo.out.trans (hB2.mono HBo.out.size)
      have hb := (Hb.out.below HBk.out hzb).below hB2 (by have := HBk.out.size; omega)
      obtain ⟨p2, c2, e2'⟩ := Own.slice ho2
      have hsl : (sortV vs).length ≤ 1000 := Nat.le_trans (canon_len_leV vs) hlv
      have hsp : 0 < (sortV vs).length := sortV_ne hvpos
      subst e2'
      clear hB2
      have f0 := hb.free 0
      have f1 := hb.free 1
      have f2 := hb.free 2
      obtain ⟨d0, d1, d2⟩ := hb.cells.c3
      simp only [Nat.zero_add] at d1 d2
      have Hr1 := HR1
      clear HR1
      by_cases h2 : op = 2
      · subst h2
        have hr := Hr1.out
        have e1 : tellV 2 g.length vs = .num (sortV vs).length := rfl
        have e2 : tellErr 2 vs = 0 := rfl
        rw [e1, e2] at hr
        clear e1 e2 ho2
        generalize hq : (sortV vs).length = q at *
        clear hq
        go_wp2_with fail
        exact ret_cell_tmp rfl rfl ((((hb.set 0 (.int .i64 (V.num (q : Int)).kind)).set 1 (.int .i64 (V.num (q : Int)).n)).set 2 (.string ⟨(V.num (q : Int)).s.toArray⟩)).cells.runVar (fun _ => by kernel_rfl) (fun _ => by kernel_rfl)) rfl rfl
          (hr _ (((hB.setCell (p := ⟨b6, 0, none⟩) hb6w _).setCell (p := ⟨b6, 1, none⟩) hb6w _).setCell (p := ⟨b6, 2, none⟩) hb6w _))
      by_cases h4 : op = 4
      · subst h4
        have hr := Hr1.out
        have e1 : tellV 4 g.length vs = leastV vs := rfl
        have e2 : tellErr 4 vs = 0 := rfl
        rw [e1, e2] at hr
        have e3 : leastV vs = (sortV vs)[0] := by
          unfold leastV
          exact headD_zero hsp
        rw [e3] at hr
        obtain ⟨ao', cap', e', -, -, -, hc'⟩ := (OwnV.sl ho2).form
        injection e' with q1 q2 q3
        subst q1 q3
        obtain ⟨bs, os, rfl, hbs1, hbs2, hcc⟩ := hc' 0 hsp
        obtain ⟨cs, -, hcs, ecs⟩ := hcc 0 hsp
        obtain rfl : cs = V.enc (sortV vs)[0] := ecs
        obtain ⟨y0, y1, y2⟩ := hcs.c3
        simp only [Nat.zero_mul, Nat.add_zero] at y0 y1 y2
        have sspi : (0 : Int) < ((sortV vs).length : Int) := by omega
        clear e1 e2 e3 ho2 hcc hcs hc' q2
        generalize (sortV vs)[0] = z at *
        go_wp2_with fail
        exact ret_cell_tmp rfl rfl ((((hb.set 0 (.int .i64 z.kind)).set 1 (.int .i64 z.n)).set 2 (.string ⟨z.s.toArray⟩)).cells.runVar (fun _ => by kernel_rfl) (fun _ => by kernel_rfl)) rfl rfl
          (hr _ (((hB.setCell (p := ⟨b6, 0, none⟩) hb6w _).setCell (p := ⟨b6, 1, none⟩) hb6w _).setCell (p := ⟨b6, 2, none⟩) hb6w _))
      · obtain rfl : op = 5 := by omega
        have hr := Hr1.out
        have e1 : tellV 5 g.length vs = greatV vs := rfl
        have e2 : tellErr 5 vs = 0 := rfl
        rw [e1, e2] at hr
        obtain ⟨m, hm⟩ : ∃ m, (sortV vs).length = m + 1 := ⟨(sortV vs).length - 1, by omega⟩
        have hms : m < (sortV vs).length := by omega
        have e3 : greatV vs = (sortV vs)[m] := by
          unfold greatV
          rw [List.getLastD_eq_getLast?, List.getLast?_eq_getElem?, hm, Nat.add_sub_cancel, List.getElem?_eq_getElem hms]
          rfl
        rw [e3] at hr
        obtain ⟨ao', cap', e', -, -, -, hc'⟩ := (OwnV.sl ho2).form
        injection e' with q1 q2 q3
        subst q1 q3
        obtain ⟨bs, os, rfl, hbs1, hbs2, hcc⟩ := hc' m hms
        obtain ⟨cs, -, hcs, ecs⟩ := hcc m hms
        obtain rfl : cs = V.enc (sortV vs)[m] := ecs
        obtain ⟨y0, y1, y2⟩ := hcs.c3
        have wsub : IntKind.i64.wrap (((sortV vs).length : Int) - 1) = (m : Int) := by rw [show ((sortV vs).length : Int) - 1 = (m : Int) by omega]; exact wrap_ok (by omega) (by omega)
        have m0 : (0 : Int) ≤ (m : Int) := by omega
        have sspi : (m : Int) < ((sortV vs).length : Int) := by omega
        have Hmm := Lib.hid hm
        clear e1 e2 e3 ho2 hcc hcs hc' q2 hm
        generalize (sortV vs)[m] = z at *
        generalize (sortV vs).length = q at *
        go_wp2_with fail
        exact ret_cell_tmp rfl rfl ((((hb.set 0 (.int .i64 z.kind)).set 1 (.int .i64 z.n)).set 2 (.string ⟨z.s.toArray⟩)).cells.runVar (fun _ => by kernel_rfl) (fun _ => by kernel_rfl)) rfl rfl
          (hr _ (((hB.setCell (p := ⟨b6, 0, none⟩) hb6w _).setCell (p := ⟨b6, 1, none⟩) hb6w _).setCell (p := ⟨b6, 2, none⟩) hb6w _))
theorem refTell_any (lo hi lc hc : Nat) (rc : List S) (ac : Option Addr) (cc : Nat) (g : List (List V)) (gv : Value) (op : Int) (col : S) (w : World) (hrc : Strs lc hc w (.slice ac rc.length cc) rc) (hhc : hc ≤ w.heap.size) (hv : Rws lo hi w gv g) (hhi : hi ≤ w.heap.size) (hlen : g.length ≤ 1000) (hok : ∀ x ∈ g, x.length = rc.length ∧ ∀ a ∈ x, a.ok) (hop1 : 1 ≤ op) (hop5 : op ≤ 5) (hpl : op ≠ 1 → 0 ≤ placeI rc col) (hpos : 0 < g.length) (R : Ending → World → Prop)
    (hR : ∀ w', Below w.heap.size w w' → R (.returned (.tuple #[(tellG rc g ⟨op, col, []⟩).agg, .int .i64 (errG rc g ⟨op, col, []⟩)])) w') : Calls Tryz.prog 45 #[.int .i64 op, .agg #[.slice ac rc.length cc, gv], .string ⟨col.toArray⟩] w R := by
  by_cases h : op = 1
  · exact refTell_count lo hi lc hc rc ac cc g gv op col w hrc hhc hv hhi hlen hok h R hR
  · exact refTell_more lo hi lc hc rc ac cc g gv op col w hrc hhc hv hhi hlen hok h (by omega) hop5 (hpl h) hpos R hR
end Go.Proofs.YtmconajkgjfplaaGreat
end

/- The document's Fold, in plain words. -/
section
set_option linter.unusedVariables false
set_option linter.unusedSimpArgs false
namespace Go.Proofs.YtmconajkgjfplaaGreat
open Go.RowKit
set_option linter.unusedVariables false
set_option linter.unusedSimpArgs false
/-- A telling that cannot be, its name left aside. -/
def aggOps (rc : List S) (a : Ag) : Bool := decide (a.op < 1) || decide (5 < a.op) || (decide (a.op = 1) && !decide (a.col = [])) || (!decide (a.op = 1) && decide (placeI rc a.col < 0))
theorem aggBad_split {rc cols : List S} {a : Ag} : aggBad rc cols a = (aggOps rc a || decide (0 ≤ placeI cols a.nm)) := rfl
theorem fitsB_cons {rc cols : List S} {a : Ag} {la : List Ag} : fitsB rc cols (a :: la) = (!aggBad rc cols a && fitsB rc (cols ++ [a.nm]) la) := by
  unfold fitsB
  rw [List.length_cons, List.range_succ_eq_map, List.all_cons, List.all_map]
  congr 1
  · unfold fitAt; simp
  · congr 1
    funext k
    simp [fitAt, List.append_assoc]
theorem fits_split {rc : List S} : ∀ {la : List Ag} {cols : List S}, cols.Nodup → fitsB rc cols la = ((la.all fun a => !aggOps rc a) && onceN (foldCols cols la))
  | [], cols, h => by
    have : onceN (foldCols cols []) = true := onceN_nodup.2 (by unfold foldCols; simpa using h)
    rw [this]; rfl
  | a :: la, cols, h => by
    rw [fitsB_cons, aggBad_split, List.all_cons]
    by_cases hm : a.nm ∈ cols
    · have h1 : onceN (foldCols cols (a :: la)) = false := by
        rw [Bool.eq_false_iff]
        intro h2
        have h3 := onceN_nodup.1 h2
        unfold foldCols at h3
        rw [List.nodup_append] at h3
        exact h3.2.2 a.nm hm a.nm (by simp) rfl
      rw [h1, decide_eq_true (place_mem_iff.2 hm)]
      simp
    · have hn : (cols ++ [a.nm]).Nodup := by
        rw [List.nodup_append]
        exact ⟨h, by simp, fun x hx y hy e => by rw [List.mem_singleton.1 hy] at e; exact hm (e ▸ hx)⟩
      rw [fits_split hn, decide_eq_false (fun h2 => hm (place_mem_iff.1 h2)), Bool.or_false, show foldCols (cols ++ [a.nm]) la = foldCols cols (a :: la) by unfold foldCols; simp, Bool.and_assoc]
theorem fits_right {rc cols : List S} {l : List (List V)} {la : List Ag} (h : rightB rc l cols = true) : fitsB rc cols la = ((la.all fun a => !aggOps rc a) && onceN (foldCols cols la)) := by
  refine fits_split (once_nodup ?_)
  unfold rightB at h
  simp only [Bool.and_eq_true] at h
  exact h.2
theorem group_may {rc : List S} {f : List V → List V} {l : List (List V)} {k : List V} (hm : mayRel rc l = true) : mayRel rc (withK f l k) = true := by
  refine may_of (may_once hm) ?_ (fun x hx => may_len hm x (List.mem_filter.1 hx).1) (List.Pairwise.filter _ (may_up' hm))
  have := withK_len (f := f) (l := l) (k := k)
  have := (may_many hm).1
  omega
theorem group_ne {rc cols : List S} {l : List (List V)} {k : List V} (hk : k ∈ keysL (grpK rc cols) l) : 0 < (withK (grpK rc cols) l k).length := by
  obtain ⟨x, hx, rfl⟩ := List.mem_map.1 ((canon_mem cmpR_cmp _ _).1 hk)
  exact List.length_pos_of_mem (List.mem_filter.2 ⟨hx, by rw [cmpR_self]; rfl⟩)
theorem group_key {rc cols : List S} {l : List (List V)} {k : List V} (hk : k ∈ keysL (grpK rc cols) l) : relCanon ((withK (grpK rc cols) l k).map fun x => pickL x (placesL cols rc)) = [k] := by
  refine canon_is (List.pairwise_singleton _ _) (fun z => ?_)
  rw [List.mem_singleton, List.mem_map]
  have hp := group_ne hk
  constructor
  · rintro ⟨x, hx, rfl⟩
    have := (List.mem_filter.1 hx).2
    rw [beq_iff_eq, cmpR_cmp.zero] at this
    exact this
  · rintro rfl
    refine ⟨(withK (grpK rc cols) l z)[0], List.getElem_mem hp, ?_⟩
    have := (List.mem_filter.1 (List.getElem_mem hp)).2
    rw [beq_iff_eq, cmpR_cmp.zero] at this
    exact this
theorem group_proj {rc cols : List S} {l : List (List V)} {k : List V} (hr : rightB rc l cols = true) (hk : k ∈ keysL (grpK rc cols) l) : projErr rc (withK (grpK rc cols) l k) cols = 0 := by
  unfold rightB at hr
  simp only [Bool.and_eq_true] at hr
  obtain ⟨⟨hm, hw⟩, ho⟩ := hr
  unfold projErr
  rw [group_may hm, hw, ho]
  simp only [Bool.and_self, if_true]
  refine madeErr_ok (once_len ho) ?_
  rw [group_key hk]; simp
theorem keys_le {f : List V → List V} {l : List (List V)} : (keysL f l).length ≤ l.length := by
  have h : (keysL f l).length ≤ (l.map f).length := canon_len_le _
  rw [List.length_map] at h
  exact h
/-- The row of one group, some of its tellings told. -/
theorem foldRow_take {rc : List S} {la : List Ag} {key : List V} {g : List (List V)} {j : Nat} (hj : j < la.length) : foldRow rc (la.take (j + 1)) key g = foldRow rc (la.take j) key g ++ [tellG rc g la[j]] := by
  unfold foldRow
  rw [List.take_succ_eq_append_getElem hj, List.map_append]
  simp
/-- Where a first telling fails, so does all. -/
theorem fold_err {rc cols : List S} {la : List Ag} {l : List (List V)} (hr : rightB rc l cols = true) (hf : fitsB rc cols la = true) (h32 : cols.length + la.length ≤ 32) {k : List V} {a : Ag} (hk : k ∈ keysL (grpK rc cols) l) (ha : a ∈ la) (he : errG rc (withK (grpK rc cols) l k) a ≠ 0) : foldErr rc cols la l = errG rc (withK (grpK rc cols) l k) a := by
  have h1 := fold_bad hk (List.Perm.refl _) ha he
  unfold foldErr
  rw [hr, hf]
  simp only [Bool.and_self, if_true]
  rw [if_neg (by omega), h1]
  have : errG rc (withK (grpK rc cols) l k) a = 160 := tellErr_val he
  rw [this]
  simp
theorem sortV_small {M : Nat} {vs : List V} (h : ∀ x ∈ vs, x.s.length ≤ M) : ∀ x ∈ sortV vs, x.s.length ≤ M := fun x hx => h x ((canon_mem cmpV_cmp vs x).1 hx)
theorem tellV_small {M : Nat} {op : Int} {n : Nat} {vs : List V} (h : ∀ x ∈ vs, x.s.length ≤ M) : (tellV op n vs).s.length ≤ M := by
  have h0 : (default : V).s.length ≤ M := Nat.zero_le _
  have hs := sortV_small h
  unfold tellV leastV greatV
  split
  · exact Nat.zero_le _
  split
  · exact Nat.zero_le _
  split
  · split <;> exact Nat.zero_le _
  split
  · cases hl : sortV vs with
    | nil => exact h0
    | cons a r => exact hs a (by rw [hl]; exact List.mem_cons_self ..)
  · rw [List.getLastD_eq_getLast?]
    cases hl : (sortV vs).getLast? with
    | none => exact h0
    | some a => exact hs a (List.mem_of_getLast? hl)
theorem row_small {M : Nat} {rc cols : List S} {la : List Ag} {l : List (List V)} (h : ∀ x ∈ l, ∀ a ∈ x, a.s.length ≤ M) : ∀ y ∈ foldRows rc cols la l, ∀ a ∈ y, a.s.length ≤ M := by
  have h0 : (default : V).s.length ≤ M := Nat.zero_le _
  have hgd : ∀ x ∈ l, ∀ k, (x.getD k default).s.length ≤ M := fun x hx k => by
    by_cases hk : k < x.length
    · rw [getDS x _ k hk]; exact h x hx _ (List.getElem_mem hk)
    · rw [List.getD_eq_getElem?_getD, List.getElem?_eq_none (by omega)]; exact h0
  intro y hy a ha
  unfold foldRows at hy
  obtain ⟨k, hk, rfl⟩ := List.mem_map.1 hy
  unfold foldRow at ha
  rcases List.mem_append.1 ha with ha | ha
  · obtain ⟨x, hx, rfl⟩ := List.mem_map.1 ((canon_mem cmpR_cmp _ _).1 hk)
    obtain ⟨q, hq, rfl⟩ := List.mem_map.1 ha
    exact hgd x hx _
  · obtain ⟨q, hq, rfl⟩ := List.mem_map.1 ha
    refine tellV_small (fun x hx => ?_)
    unfold aggVs at hx
    split at hx
    · cases hx
    · unfold colL at hx
      obtain ⟨z, hz, rfl⟩ := List.mem_map.1 hx
      exact hgd z (List.mem_filter.1 hz).1 _
theorem rows_len {rc cols : List S} {la : List Ag} {l : List (List V)} : ∀ y ∈ foldRows rc cols la l, y.length = cols.length + la.length := by
  intro y hy
  unfold foldRows at hy
  obtain ⟨k, hk, rfl⟩ := List.mem_map.1 hy
  unfold foldRow
  rw [List.length_append, List.length_map, keys_len k hk]
theorem grp_at {rc cols : List S} {l : List (List V)} {k : Nat} (h1 : k < (grpL rc l cols).length) (h2 : k < (keysL (grpK rc cols) l).length) : (grpL rc l cols)[k] = withK (grpK rc cols) l (keysL (grpK rc cols) l)[k] := by
  simp [grpL]
theorem rows_take {rc cols : List S} {la : List Ag} {l : List (List V)} {k : Nat} (h2 : k < (keysL (grpK rc cols) l).length) : (foldRows rc cols la l).take (k + 1) = (foldRows rc cols la l).take k ++ [foldRow rc la (keysL (grpK rc cols) l)[k] (withK (grpK rc cols) l (keysL (grpK rc cols) l)[k])] := by
  have h : k < (foldRows rc cols la l).length := by unfold foldRows; rw [List.length_map]; exact h2
  rw [List.take_succ_eq_append_getElem h]
  congr 2
  simp [foldRows]
end Go.Proofs.YtmconajkgjfplaaGreat
end

/- The law of layer 16: same, on relations alike. (Printed by r16.py.) -/
section
set_option linter.unusedVariables false
set_option linter.unusedSimpArgs false
namespace Go.Proofs.YtmconajkgjfplaaGreat
open Go.RowKit
set_option linter.unusedVariables false
set_option linter.unusedSimpArgs false
set_option maxRecDepth 100000 in
set_option maxHeartbeats 4000000 in
theorem lawSame16_any (lo hi lo2 hi2 lc hc lc2 hc2 : Nat) (cols : List S) (l : List (List V)) (ca cb la lb : Value) (w : World) (hca : Strs lc hc w ca cols) (hcb : Strs lc2 hc2 w cb cols) (hla : Rws lo hi w la l) (hlb : Rws lo2 hi2 w lb l) (h1 : hc ≤ w.heap.size) (h2 : hc2 ≤ w.heap.size) (h3 : hi ≤ w.heap.size) (h4 : hi2 ≤ w.heap.size) (hrs : ∀ x ∈ l, ∀ a ∈ x, a.s.length ≤ 9223372036854775807) (R : Ending → World → Prop)
    (hR : ∀ w', Below w.heap.size w w' → R (.returned (.bool true)) w') : Calls Tryz.prog 11 #[.agg #[ca, la], .agg #[cb, lb]] w R := by
  have HR := Lib.hid hR
  have HCa := Lib.hid hca
  have HCb := Lib.hid hcb
  have HLa := Lib.hid hla
  have HLb := Lib.hid hlb
  have Hrs := Lib.hid hrs
  obtain ⟨aca, cca, rfl, -, -, -, -⟩ := hca.form
  obtain ⟨acb, ccb, rfl, -, -, -, -⟩ := hcb.form
  obtain ⟨ala, cla, rfl, -, -, -, -⟩ := hla.form
  obtain ⟨alb, clb, rfl, -, -, -, -⟩ := hlb.form
  clear hR hca hcb hla hlb hrs
  go_enter Tryz.func11, Tryz.ntmps11
  go_upto_region 1 with fail
  obtain ⟨w0, hw0⟩ : ∃ w0, w0 = (w.alloc (.cells #[.slice aca cols.length cca, .slice ala l.length cla] 25)).alloc (.cells #[.slice acb cols.length ccb, .slice alb l.length clb] 25) := ⟨_, rfl⟩
  have s1 : (w.alloc (.cells #[.slice aca cols.length cca, .slice ala l.length cla] 25)).heap.size = w.heap.size + 1 := Array.size_push _
  have hB0 : Below w.heap.size w w0 := by
    rw [hw0]
    exact (alloc_below w _).alloc (by rw [s1]; omega) _
  have hz0 : w.heap.size + 1 < w0.heap.size := by
    rw [hw0]
    show _ < (Array.push _ _).size
    rw [Array.size_push, s1]; omega
  have hb1 : Blk w0 w.heap.size [.slice aca cols.length cca, .slice ala l.length cla] 25 := by
    rw [hw0]
    exact (Blk.new w [.slice aca cols.length cca, .slice ala l.length cla] _ rfl).alloc _
  have hb2 : Blk w0 (w.heap.size + 1) [.slice acb cols.length ccb, .slice alb l.length clb] 25 := by
    rw [hw0]
    exact Blk.new _ [.slice acb cols.length ccb, .slice alb l.length clb] _ s1.symm
  rw [← hw0]
  clear hw0 s1
  have HB0 := Lib.hid hB0
  have HA := Lib.hid hb1
  have HBb := Lib.hid hb2
  have hb1l : w.heap.size < w0.heap.size := by omega
  clear hB0 hb1 hb2
  have hS0 : Below w0.heap.size w0 w0.drew := (Below.refl _ _).drew
  refine wp_region_held_drew (S := fun w' => Below w0.heap.size w0 w') (by kernel_rfl) hS0 (fun hHeld => ?_)
  refine wpAnyH_take (i := 0) (v := .agg #[.slice aca cols.length cca, .slice ala l.length cla]) rfl (by kernel_rfl) (by kernel_rfl) (by kernel_rfl) (fun _ _ _ h => h) (Or.inl ⟨by rfl, ?_⟩) hHeld ?_
  · intro w' hSw; have kx := (HA.out.below hSw hb1l).cells.runVar (P := Tryz.prog) (t := 25) (fun _ => by kernel_rfl) (fun _ => by kernel_rfl); obtain ⟨z0, z1⟩ := (HA.out.below hSw hb1l).cells.c2; simp only [Nat.zero_add] at z1; go_simp
  try simp only [Act.put, List.getElem_toArray, List.getElem_cons_succ, List.getElem_cons_zero, List.setIfInBounds_toArray, List.set_cons_zero, List.set_cons_succ]
  refine wpAnyH_take (i := 2) (v := .agg #[.slice acb cols.length ccb, .slice alb l.length clb]) rfl (by kernel_rfl) (by kernel_rfl) (by kernel_rfl) (fun _ _ _ h => h) (Or.inl ⟨by rfl, ?_⟩) hHeld ?_
  · intro w' hSw; have kx := (HBb.out.below hSw hz0).cells.runVar (P := Tryz.prog) (t := 25) (fun _ => by kernel_rfl) (fun _ => by kernel_rfl); obtain ⟨z0, z1⟩ := (HBb.out.below hSw hz0).cells.c2; simp only [Nat.zero_add] at z1; go_simp
  try simp only [Act.put, List.getElem_toArray, List.getElem_cons_succ, List.getElem_cons_zero, List.setIfInBounds_toArray, List.set_cons_zero, List.set_cons_succ]
  refine wpAnyH_ready (rs := [1]) (by kernel_rfl) (by simp) ?_
  refine allCall (f := 17) (args := #[.agg #[.slice aca cols.length cca, .slice ala l.length cla]]) rfl (by kernel_rfl) (by kernel_rfl) ?_ AllReadyH.nil
  refine ref16_any _ _ _ _ _ _ w0.drew _ (fun wq1 hB => ?_)
  refine ⟨_, rfl, hHeld.trans (hB.mono hHeld.size), ?_⟩
  have hHeld2 := hHeld.trans (hB.mono hHeld.size)
  clear hHeld
  have hHeld := hHeld2
  clear hHeld2
  clear hB
  try simp only [Act.put, List.getElem_toArray, List.getElem_cons_succ, List.getElem_cons_zero, List.setIfInBounds_toArray, List.set_cons_zero, List.set_cons_succ]
  refine wpAnyH_ready (rs := [3]) (by kernel_rfl) (by simp) ?_
  refine allCall (f := 17) (args := #[.agg #[.slice acb cols.length ccb, .slice alb l.length clb]]) rfl (by kernel_rfl) (by kernel_rfl) ?_ AllReadyH.nil
  refine ref16_any _ _ _ _ _ _ wq1 _ (fun wq2 hB => ?_)
  refine ⟨_, rfl, hHeld.trans (hB.mono hHeld.size), ?_⟩
  have hHeld2 := hHeld.trans (hB.mono hHeld.size)
  clear hHeld
  have hHeld := hHeld2
  clear hHeld2
  clear hB
  try simp only [Act.put, List.getElem_toArray, List.getElem_cons_succ, List.getElem_cons_zero, List.setIfInBounds_toArray, List.set_cons_zero, List.set_cons_succ]
  refine wpAnyH_ready (rs := [4]) (by kernel_rfl) (by simp) ?_
  refine allCall (f := 18) (args := #[.agg #[.slice aca cols.length cca, .slice ala l.length cla], .agg #[.slice acb cols.length ccb, .slice alb l.length clb]]) rfl (by kernel_rfl) (by kernel_rfl) ?_ AllReadyH.nil
  refine Same_any lo hi lo2 hi2 lc hc lc2 hc2 cols l _ _ _ _ wq2 (Sl.below HCa.out Strs.loc (HB0.out.trans (hHeld.mono (by omega))) h1) (Sl.below HCb.out Strs.loc (HB0.out.trans (hHeld.mono (by omega))) h2) (Sl.below HLa.out rowE_loc (HB0.out.trans (hHeld.mono (by omega))) h3) (Sl.below HLb.out rowE_loc (HB0.out.trans (hHeld.mono (by omega))) h4) (by have := hHeld.size; omega) (by have := hHeld.size; omega) (by have := hHeld.size; omega) (by have := hHeld.size; omega) Hrs.out _ (fun wq3 hB => ?_)
  refine ⟨_, rfl, hHeld.trans (hB.mono hHeld.size), ?_⟩
  have hHeld2 := hHeld.trans (hB.mono hHeld.size)
  clear hHeld
  have hHeld := hHeld2
  clear hHeld2
  clear hB
  try simp only [Act.put, List.getElem_toArray, List.getElem_cons_succ, List.getElem_cons_zero, List.setIfInBounds_toArray, List.set_cons_zero, List.set_cons_succ]
  refine wpAnyH_take (i := 5) (v := .bool true) rfl (by kernel_rfl) (by kernel_rfl) (by kernel_rfl) (fun _ _ _ h => h) (Or.inl ⟨by rfl, ?_⟩) hHeld ?_
  · intro w' hSw; go_simp
  try simp only [Act.put, List.getElem_toArray, List.getElem_cons_succ, List.getElem_cons_zero, List.setIfInBounds_toArray, List.set_cons_zero, List.set_cons_succ]
  have HH2 := Lib.hid hHeld
  refine wpAnyH_done (by kernel_rfl) ?_ _
  clear hHeld
  have hr := HR.out _ (HB0.out.trans (HH2.out.mono (by omega)))
  go_wp2_with fail
  first | exact hr | exact fin hr rfl
end Go.Proofs.YtmconajkgjfplaaGreat
end
