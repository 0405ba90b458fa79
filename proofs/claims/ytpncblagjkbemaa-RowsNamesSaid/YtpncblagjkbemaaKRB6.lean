/- Texts that the proofs of RB stand on, part 6. -/
import Derived.Test.YtpncblagjkbemaaKRB5
/- The document's Without. (Printed by meo.py, merf.py.) -/
section
set_option linter.unusedVariables false
set_option linter.unusedSimpArgs false
namespace Go.Proofs.Ytpncblagjkbemaa
open Go.RowKit
set_option linter.unusedVariables false
set_option linter.unusedSimpArgs false
attribute [local go_sem ↓] Go.wp_at_zero Go.wp_at_succ

set_option maxRecDepth 100000 in
set_option maxHeartbeats 4000000 in
theorem refWithout_any (lca hca lra hra lcb hcb lrb hrb : Nat) (ac bc : List S) (pa pb : Option Addr) (ca cb : Nat) (la lb : List (List V)) (lva lvb : Value) (w : World) (ha : Strs lca hca w (.slice pa ac.length ca) ac) (hha : hca ≤ w.heap.size) (hla : Rws lra hra w lva la) (hhla : hra ≤ w.heap.size) (hb : Strs lcb hcb w (.slice pb bc.length cb) bc) (hhb : hcb ≤ w.heap.size) (hlb : Rws lrb hrb w lvb lb) (hhlb : hrb ≤ w.heap.size) (hras : ∀ x ∈ la, ∀ a ∈ x, a.s.length ≤ 9223372036854775807) (hrbs : ∀ x ∈ lb, ∀ a ∈ x, a.s.length ≤ 9223372036854775807) (hll : la.length ≤ 1000000) (hllb : lb.length ≤ 1000000) (R : Ending → World → Prop)
    (hR : ∀ w' cv2 lv2, Below w.heap.size w w' → Strs lca hca w' cv2 (okL (woErr ac la bc lb) ac) → Rws w.heap.size w'.heap.size w' lv2 (okL (woErr ac la bc lb) (relCanon (withoutL ac la bc lb))) → R (.returned (.tuple #[.agg #[cv2, lv2], .int .i64 (woErr ac la bc lb)])) w') :
    Calls Try.prog 46 #[.agg #[.slice pa ac.length ca, lva], .agg #[.slice pb bc.length cb, lvb]] w R := by
  have HR := Lib.hid hR
  have Ha := Lib.hid ha
  have Hb := Lib.hid hb
  have Hla := Lib.hid hla
  have Hlb := Lib.hid hlb
  have Hras := Lib.hid hras
  have Hrbs := Lib.hid hrbs
  obtain ⟨av, av2, rfl, -, -, -, -⟩ := hla.form
  obtain ⟨bv, bv2, rfl, -, -, -, -⟩ := hlb.form
  have hal63 := ha.len
  have hbl63 := hb.len
  clear hR ha hb hla hlb hras hrbs
  obtain ⟨wa, ewa⟩ : ∃ x, x = w.alloc (.cells #[.slice pa ac.length ca, .slice av la.length av2] 53) := ⟨_, rfl⟩
  obtain ⟨wb, ewb⟩ : ∃ x, x = wa.alloc (.cells #[.slice pb bc.length cb, .slice bv lb.length bv2] 53) := ⟨_, rfl⟩
  obtain ⟨w2, ew2⟩ : ∃ x, x = wb.alloc (.cells #[.slice none 0 0, .slice none 0 0] 53) := ⟨_, rfl⟩
  have sa : wa.heap.size = w.heap.size + 1 := by rw [ewa]; simp
  have sb : wb.heap.size = w.heap.size + 1 + 1 := by rw [ewb]; simp [sa]
  have hBa : Below w.heap.size w wa := by rw [ewa]; exact alloc_below _ _
  have hBb : Below wa.heap.size wa wb := by rw [ewb]; exact alloc_below _ _
  have hBc : Below wb.heap.size wb w2 := by rw [ew2]; exact alloc_below _ _
  have hb1 : Blk wa w.heap.size [.slice pa ac.length ca, .slice av la.length av2] 53 := by rw [ewa]; exact Blk.new w [.slice pa ac.length ca, .slice av la.length av2] _ rfl
  have hb2 : Blk wb (w.heap.size + 1) [.slice pb bc.length cb, .slice bv lb.length bv2] 53 := by rw [ewb]; exact Blk.new wa [.slice pb bc.length cb, .slice bv lb.length bv2] _ sa.symm
  have hb3 : Blk w2 (w.heap.size + 1 + 1) [.slice none 0 0, .slice none 0 0] 53 := by rw [ew2]; exact Blk.new wb [.slice none 0 0, .slice none 0 0] _ sb.symm
  have hb1 := (hb1.below hBb hb1.lt).below hBc (by omega)
  have hb2 := hb2.below hBc hb2.lt
  have hB := hBa.trans ((hBb.mono hBa.size).trans (hBc.mono (by omega)))
  go_enter Try.func46, Try.ntmps46
  go_upto_region 1 with fail
  rw [← ewa, ← ewb, ← ew2]
  clear ewa ewb ew2 hBa hBb hBc sa sb
  have HB := Lib.hid hB
  have Hb1 := Lib.hid hb1
  have Hb2 := Lib.hid hb2
  have Hb3 := Lib.hid hb3
  have hz2 := hB.size
  have hl3 := hb3.lt
  clear hb1 hb2 hb3 hB
  obtain ⟨c0, c1⟩ := Hb1.out.cells.c2
  simp only [Nat.zero_add] at c1
  go_wp2_with fail
  refine refMay_any lra hra lca hca ac _ _ la _ w2 (Sl.below Ha.out Strs.loc HB.out hha) (by omega) (Sl.below Hla.out rowE_loc HB.out hhla) (by omega) Hras.out _ (fun w5 hB5 => ?_)
  have hz5 := hB5.size
  have HA5 := Lib.hid hB5
  have HW5 := Lib.hid (HB.out.trans (hB5.mono hz2))
  clear hB5 c0 c1
  obtain ⟨c0, c1⟩ := (Hb2.out.below HA5.out (by omega)).cells.c2
  simp only [Nat.zero_add] at c1
  go_wp2_with fail
  refine refMay_any lrb hrb lcb hcb bc _ _ lb _ w5 (Sl.below Hb.out Strs.loc HW5.out hhb) (by omega) (Sl.below Hlb.out rowE_loc HW5.out hhlb) (by omega) Hrbs.out _ (fun w6 hB6 => ?_)
  have hz6 := hB6.size
  have HA6 := Lib.hid (HA5.out.trans (hB6.mono (by omega)))
  have HW6 := Lib.hid (HB.out.trans (HA6.out.mono hz2))
  clear hB6 c0 c1
  have Hd1 := Lib.hid (Hb1.out.below HA6.out (by omega))
  have Hd2 := Lib.hid (Hb2.out.below HA6.out (by omega))
  have Hd3 := Lib.hid (Hb3.out.below HA6.out hl3)
  have hld : w.heap.size + 1 + 1 < w6.heap.size := by omega
  obtain ⟨c0, c1⟩ := Hd1.out.cells.c2
  obtain ⟨d0, d1⟩ := Hd2.out.cells.c2
  simp only [Nat.zero_add] at c1 d1
  cases hm : mayRel ac la
  · obtain ⟨e0, e1⟩ := Hd3.out.cells.c2
    have f0 := Hd3.out.free 0
    have f1 := Hd3.out.free 1
    simp only [Nat.zero_add] at e1
    have he : woErr ac la bc lb = 2 := by unfold woErr; rw [hm]; rfl
    obtain ⟨t1, t2, t3⟩ := refTail (pc := none) (pr := none) (nc := 0) (nr := 0) (qc := 0) (qr := 0) Hd3.out
    have hr := HR.out _ _ _ ((HW6.out.setCell (p := ⟨w.heap.size + 1 + 1, 0, none⟩) (by show w.heap.size ≤ w.heap.size + 1 + 1; omega) (.slice none 0 0)).setCell (p := ⟨w.heap.size + 1 + 1, 1, none⟩) (by show w.heap.size ≤ w.heap.size + 1 + 1; omega) (.slice none 0 0)) (by rw [he]; exact Sl.nil _ _ _ _ _) (by rw [he]; exact Sl.nil _ _ _ _ _)
    rw [he] at hr
    have Hr := Lib.hid hr
    have Ht := Lib.hid t1
    clear hr t1 t2 t3 he hm
    go_wp2_with fail
    exact ret_cell_tmp rfl rfl Ht.out rfl rfl Hr.out
  have Hm := Lib.hid hm
  clear hm
  cases hmb : mayRel bc lb
  · obtain ⟨e0, e1⟩ := Hd3.out.cells.c2
    have f0 := Hd3.out.free 0
    have f1 := Hd3.out.free 1
    simp only [Nat.zero_add] at e1
    have he : woErr ac la bc lb = 2 := by unfold woErr; rw [Hm.out, hmb]; rfl
    obtain ⟨t1, t2, t3⟩ := refTail (pc := none) (pr := none) (nc := 0) (nr := 0) (qc := 0) (qr := 0) Hd3.out
    have hr := HR.out _ _ _ ((HW6.out.setCell (p := ⟨w.heap.size + 1 + 1, 0, none⟩) (by show w.heap.size ≤ w.heap.size + 1 + 1; omega) (.slice none 0 0)).setCell (p := ⟨w.heap.size + 1 + 1, 1, none⟩) (by show w.heap.size ≤ w.heap.size + 1 + 1; omega) (.slice none 0 0)) (by rw [he]; exact Sl.nil _ _ _ _ _) (by rw [he]; exact Sl.nil _ _ _ _ _)
    rw [he] at hr
    have Hr := Lib.hid hr
    have Ht := Lib.hid t1
    clear hr t1 t2 t3 he hmb
    go_wp2_with fail
    exact ret_cell_tmp rfl rfl Ht.out rfl rfl Hr.out
  have Hmb := Lib.hid hmb
  clear hmb
  have hmca := (may_many Hm.out).2
  have hmcb := (may_many Hmb.out).2
  have he : woErr ac la bc lb = madeErr ac (withoutL ac la bc lb) := by unfold woErr; rw [Hm.out, Hmb.out]; rfl
  rw [he] at HR
  clear he
  have Hag : Hid (∀ x y, refAgreeB ac bc x y = agreeR ac bc x y) := Lib.hid (fun x y => agree_same x y (may_once Hm.out))
  go_wp2_with fail
  go_loopw [8, 9] (fun t8 t9 wr => ∃ (i : Nat), i ≤ la.length ∧ t9 = .int .i64 i ∧ LR w6.heap.size 0 wr t8 ((la.take i).filter fun x => !(lb.any fun y => agreeR ac bc x y)) ∧ Below w6.heap.size w6 wr) (fun _ t9 _ => la.length - (intOf t9).toNat)
  case atStart => exact ⟨0, Nat.zero_le _, rfl, LR.nil _ _ _, Below.refl _ _⟩
  case round =>
    obtain ⟨i, hi, rfl, ho, hB⟩ := hrel
    obtain ⟨wo, ewo⟩ : ∃ x, x = wr := ⟨_, rfl⟩
    subst ewo
    have Ho := Lib.hid ho
    have HBo := Lib.hid hB
    have HBw := Lib.hid (HW6.out.trans (hB.mono (by omega)))
    have hzo := hB.size
    have Hbo1 := Lib.hid (Hd1.out.below hB (by omega))
    have Hbo2 := Lib.hid (Hd2.out.below hB (by omega))
    have ii0 : (0 : Int) ≤ (i : Int) := by omega
    obtain ⟨po, co, hpo⟩ := ho.slice
    have hfl : ((la.take i).filter fun x => !(lb.any fun y => agreeR ac bc x y)).length ≤ i := Nat.le_trans (List.length_filter_le _ _) (by rw [List.length_take]; omega)
    clear ho hB c0 c1 d0 d1
    obtain ⟨c0, c1⟩ := Hbo1.out.cells.c2
    obtain ⟨d0, d1⟩ := Hbo2.out.cells.c2
    simp only [Nat.zero_add] at c1 d1
    by_cases hlt : i < la.length
    · have iil : (i : Int) < (la.length : Int) := by omega
      obtain ⟨b3, o3, rfl, hb3, hrow3⟩ := Rws.at (Sl.below Hla.out rowE_loc HBw.out hhla) (by omega) (by omega)
      obtain ⟨p1, q1, g1, r1⟩ := hrow3 i hlt
      have G1 := Lib.hid g1
      have R1 := Lib.hid r1
      have Hst : Hid (((la.take (i + 1)).filter fun x => !(lb.any fun y => agreeR ac bc x y)) = ((la.take i).filter fun x => !(lb.any fun y => agreeR ac bc x y)) ++ (if (!(lb.any fun y => agreeR ac bc la[i] y)) = true then [la[i]] else [])) := Lib.hid (by rw [List.take_succ_eq_append_getElem hlt, List.filter_append, List.filter_cons, List.filter_nil])
      have Hxl : Hid (la[i].length = ac.length) := Lib.hid (may_len Hm.out _ (List.getElem_mem hlt))
      have Hxs : Hid (∀ a ∈ la[i], a.s.length ≤ 9223372036854775807) := Lib.hid (Hras.out _ (List.getElem_mem hlt))
      clear hrow3 g1 r1
      generalize la[i] = xa at *
      generalize hX : ((la.take i).filter fun x => !(lb.any fun y => agreeR ac bc x y)) = X at *
      subst hpo
      go_wp2_with fail
      go_loopw [10, 11] (fun t10 t11 wk => ∃ (k : Nat), k ≤ lb.length ∧ t11 = .int .i64 k ∧ t10 = .bool ((lb.take k).any fun y => agreeR ac bc xa y) ∧ Below wo.heap.size wo wk) (fun _ t11 _ => lb.length - (intOf t11).toNat)
      case atStart => exact ⟨0, Nat.zero_le _, rfl, rfl, Below.refl _ _⟩
      case round =>
        obtain ⟨k, hk, rfl, rfl, hB⟩ := hrel
        obtain ⟨wk, ewk⟩ : ∃ x, x = wr := ⟨_, rfl⟩
        subst ewk
        have HBk := Lib.hid hB
        have HBwk := Lib.hid (HBw.out.trans (hB.mono (by omega)))
        have hzk := hB.size
        have Hbk1 := Lib.hid (Hbo1.out.below hB (by omega))
        have Hbk2 := Lib.hid (Hbo2.out.below hB (by omega))
        have kk0 : (0 : Int) ≤ (k : Int) := by omega
        clear hB c0 c1 d0 d1
        obtain ⟨c0, c1⟩ := Hbk1.out.cells.c2
        obtain ⟨d0, d1⟩ := Hbk2.out.cells.c2
        simp only [Nat.zero_add] at c1 d1
        by_cases hlk : k < lb.length
        · have kkl : (k : Int) < (lb.length : Int) := by omega
          obtain ⟨b4, o4, rfl, hb4, hrow4⟩ := Rws.at (Sl.below Hlb.out rowE_loc HBwk.out hhlb) (by omega) (by omega)
          obtain ⟨p2, q2, g2, r2⟩ := hrow4 k hlk
          have G2 := Lib.hid g2
          have R2 := Lib.hid r2
          have Hsk := Lib.hid (any_take_succ lb (fun y => agreeR ac bc xa y) k hlk)
          have Hyl : Hid (lb[k].length = bc.length) := Lib.hid (may_len Hmb.out _ (List.getElem_mem hlk))
          have Hys : Hid (∀ a ∈ lb[k], a.s.length ≤ 9223372036854775807) := Lib.hid (Hrbs.out _ (List.getElem_mem hlk))
          have Hmet := Lib.hid (Hag.out xa lb[k])
          clear hrow4 g2 r2
          generalize lb[k] = xb at *
          go_upto_region 13 with fail
          have hS0 : Below wk.heap.size wk wk.drew := (Below.refl _ _).drew
          refine wp_region_held_drew (S := fun w' => Below wk.heap.size wk w') (by kernel_rfl) hS0 (fun hHeld => ?_)
          refine wpAnyH_take (i := 0) (v := .agg #[.slice pa ac.length ca, .slice (some ⟨b3, o3, none⟩) la.length av2]) rfl (by kernel_rfl) (by kernel_rfl) (by kernel_rfl) (fun _ _ _ h => h) (Or.inl ⟨by rfl, ?_⟩) hHeld ?_
          · intro w' hSw; obtain ⟨z0, z1⟩ := (Hbk1.out.below hSw (by omega)).cells.c2; simp only [Nat.zero_add] at z1; go_simp
          try simp only [Act.put, List.getElem_toArray, List.getElem_cons_succ, List.getElem_cons_zero, List.setIfInBounds_toArray, List.set_cons_zero, List.set_cons_succ]
          refine wpAnyH_take (i := 1) (v := .agg #[.slice pb bc.length cb, .slice (some ⟨b4, o4, none⟩) lb.length bv2]) rfl (by kernel_rfl) (by kernel_rfl) (by kernel_rfl) (fun _ _ _ h => h) (Or.inl ⟨by rfl, ?_⟩) hHeld ?_
          · intro w' hSw; obtain ⟨z0, z1⟩ := (Hbk2.out.below hSw (by omega)).cells.c2; simp only [Nat.zero_add] at z1; go_simp
          try simp only [Act.put, List.getElem_toArray, List.getElem_cons_succ, List.getElem_cons_zero, List.setIfInBounds_toArray, List.set_cons_zero, List.set_cons_succ]
          refine wpAnyH_take (i := 2) (v := .pointer (some ⟨w.heap.size, 1, none⟩)) rfl (by kernel_rfl) (by kernel_rfl) (by kernel_rfl) (fun _ _ _ h => h) (Or.inl ⟨by rfl, ?_⟩) hHeld ?_
          · intro w' hSw; go_simp
          try simp only [Act.put, List.getElem_toArray, List.getElem_cons_succ, List.getElem_cons_zero, List.setIfInBounds_toArray, List.set_cons_zero, List.set_cons_succ]
          refine wpAnyH_take (i := 3) (v := .slice (some ⟨b3, o3, none⟩) la.length av2) rfl (by kernel_rfl) (by kernel_rfl) (by kernel_rfl) (fun _ _ _ h => h) (Or.inl ⟨by rfl, ?_⟩) hHeld ?_
          · intro w' hSw; obtain ⟨z0, z1⟩ := (Hbk1.out.below hSw (by omega)).cells.c2; simp only [Nat.zero_add] at z1; go_simp
          try simp only [Act.put, List.getElem_toArray, List.getElem_cons_succ, List.getElem_cons_zero, List.setIfInBounds_toArray, List.set_cons_zero, List.set_cons_succ]
          refine wpAnyH_take (i := 4) (v := .int .i64 ((i : Int))) rfl (by kernel_rfl) (by kernel_rfl) (by kernel_rfl) (fun _ _ _ h => h) (Or.inl ⟨by rfl, ?_⟩) hHeld ?_
          · intro w' hSw; go_simp
          try simp only [Act.put, List.getElem_toArray, List.getElem_cons_succ, List.getElem_cons_zero, List.setIfInBounds_toArray, List.set_cons_zero, List.set_cons_succ]
          refine wpAnyH_take (i := 5) (v := .pointer (some ⟨b3, o3 + i, none⟩)) rfl (by kernel_rfl) (by kernel_rfl) (by kernel_rfl) (fun _ _ _ h => h) (Or.inl ⟨by rfl, ?_⟩) hHeld ?_
          · intro w' hSw; go_simp
          try simp only [Act.put, List.getElem_toArray, List.getElem_cons_succ, List.getElem_cons_zero, List.setIfInBounds_toArray, List.set_cons_zero, List.set_cons_succ]
          refine wpAnyH_take (i := 6) (v := .slice p1 xa.length q1) rfl (by kernel_rfl) (by kernel_rfl) (by kernel_rfl) (fun _ _ _ h => h) (Or.inl ⟨by rfl, ?_⟩) hHeld ?_
          · intro w' hSw; have kx := G1.out w' (HBk.out.trans (hSw.mono (by omega))); go_simp
          try simp only [Act.put, List.getElem_toArray, List.getElem_cons_succ, List.getElem_cons_zero, List.setIfInBounds_toArray, List.set_cons_zero, List.set_cons_succ]
          refine wpAnyH_take (i := 7) (v := .pointer (some ⟨w.heap.size + 1, 1, none⟩)) rfl (by kernel_rfl) (by kernel_rfl) (by kernel_rfl) (fun _ _ _ h => h) (Or.inl ⟨by rfl, ?_⟩) hHeld ?_
          · intro w' hSw; go_simp
          try simp only [Act.put, List.getElem_toArray, List.getElem_cons_succ, List.getElem_cons_zero, List.setIfInBounds_toArray, List.set_cons_zero, List.set_cons_succ]
          refine wpAnyH_take (i := 8) (v := .slice (some ⟨b4, o4, none⟩) lb.length bv2) rfl (by kernel_rfl) (by kernel_rfl) (by kernel_rfl) (fun _ _ _ h => h) (Or.inl ⟨by rfl, ?_⟩) hHeld ?_
          · intro w' hSw; obtain ⟨z0, z1⟩ := (Hbk2.out.below hSw (by omega)).cells.c2; simp only [Nat.zero_add] at z1; go_simp
          try simp only [Act.put, List.getElem_toArray, List.getElem_cons_succ, List.getElem_cons_zero, List.setIfInBounds_toArray, List.set_cons_zero, List.set_cons_succ]
          refine wpAnyH_take (i := 9) (v := .int .i64 ((k : Int))) rfl (by kernel_rfl) (by kernel_rfl) (by kernel_rfl) (fun _ _ _ h => h) (Or.inl ⟨by rfl, ?_⟩) hHeld ?_
          · intro w' hSw; go_simp
          try simp only [Act.put, List.getElem_toArray, List.getElem_cons_succ, List.getElem_cons_zero, List.setIfInBounds_toArray, List.set_cons_zero, List.set_cons_succ]
          refine wpAnyH_take (i := 10) (v := .pointer (some ⟨b4, o4 + k, none⟩)) rfl (by kernel_rfl) (by kernel_rfl) (by kernel_rfl) (fun _ _ _ h => h) (Or.inl ⟨by rfl, ?_⟩) hHeld ?_
          · intro w' hSw; go_simp
          try simp only [Act.put, List.getElem_toArray, List.getElem_cons_succ, List.getElem_cons_zero, List.setIfInBounds_toArray, List.set_cons_zero, List.set_cons_succ]
          refine wpAnyH_take (i := 11) (v := .slice p2 xb.length q2) rfl (by kernel_rfl) (by kernel_rfl) (by kernel_rfl) (fun _ _ _ h => h) (Or.inl ⟨by rfl, ?_⟩) hHeld ?_
          · intro w' hSw; have kx := G2.out w' hSw; go_simp
          try simp only [Act.put, List.getElem_toArray, List.getElem_cons_succ, List.getElem_cons_zero, List.setIfInBounds_toArray, List.set_cons_zero, List.set_cons_succ]
          refine wpAnyH_ready (rs := [12]) (by kernel_rfl) (by simp) ?_
          refine allCall (f := 89) (args := #[.agg #[.slice pa ac.length ca, .slice (some ⟨b3, o3, none⟩) la.length av2], .agg #[.slice pb bc.length cb, .slice (some ⟨b4, o4, none⟩) lb.length bv2], .slice p1 xa.length q1, .slice p2 xb.length q2]) rfl (by kernel_rfl) (by kernel_rfl) ?_ AllReadyH.nil
          have HBd := Lib.hid (HBwk.out.trans (hS0.mono (by omega)))
          refine refAgree_any lca hca lcb hcb lra hra lrb hrb ac bc _ _ _ _ _ _ _ _ _ _ xa xb _ _ wk.drew (Sl.below Ha.out Strs.loc HBd.out hha) (by show hca ≤ wk.heap.size; omega) (Sl.below Hb.out Strs.loc HBd.out hhb) (by show hcb ≤ wk.heap.size; omega) (Sl.below R1.out Row1.loc (HBk.out.trans (hS0.mono (by omega))) (by omega)) (by show hra ≤ wk.heap.size; omega) (Sl.below R2.out Row1.loc hS0 (by omega)) (by show hrb ≤ wk.heap.size; omega) Hxl.out Hyl.out Hxs.out Hys.out (by omega) (by omega) _ (fun wq hBq => ?_)
          have hBq' : Below wk.heap.size wk wq := hS0.trans hBq
          refine ⟨_, rfl, hBq', ?_⟩
          have HBq := Lib.hid hBq'
          clear hBq' hBq hHeld
          have hHeld := HBq.out
          try simp only [Act.put, List.getElem_toArray, List.getElem_cons_succ, List.getElem_cons_zero, List.setIfInBounds_toArray, List.set_cons_zero, List.set_cons_succ]
          refine wpAnyH_take (i := 13) (v := .bool (refAgreeB ac bc xa xb)) rfl (by kernel_rfl) (by kernel_rfl) (by kernel_rfl) (fun _ _ _ h => h) (Or.inl ⟨by rfl, ?_⟩) hHeld ?_
          · intro w' hSw; go_simp
          try simp only [Act.put, List.getElem_toArray, List.getElem_cons_succ, List.getElem_cons_zero, List.setIfInBounds_toArray, List.set_cons_zero, List.set_cons_succ]
          refine wpAnyH_done (by kernel_rfl) ?_ _
          clear hHeld
          have HBq2 := Lib.hid (HBk.out.trans (HBq.out.mono (by omega)))
          rw [Hmet.out]
          generalize hbv : agreeR ac bc xa xb = bv2' at *
          generalize hmv : (lb.take k).any (fun y => agreeR ac bc xa y) = mv at *
          cases mv
          · go_wp2_with fail
            go_roundw
            case rel => exact ⟨k + 1, by omega, by go_num, by rw [Hsk.out]; cases bv2' <;> rfl, HBq2.out⟩
            case measure => simp [intOf]; omega
          · go_wp2_with fail
            go_roundw
            case rel => exact ⟨k + 1, by omega, by go_num, by rw [Hsk.out]; rfl, HBq2.out⟩
            case measure => simp [intOf]; omega
        · obtain rfl : k = lb.length := by omega
          have llk : ¬ ((lb.length : Nat) : Int) < (lb.length : Int) := by omega
          rw [List.take_length]
          have HBwk2 := Lib.hid (HBo.out.trans (HBk.out.mono (by omega)))
          have Hok := Lib.hid (Ho.out.kept HBk.out)
          have Gk := G1.out wk HBk.out
          cases hmet : lb.any fun y => agreeR ac bc xa y
          · have Hst2 : Hid (((la.take (i + 1)).filter fun x => !(lb.any fun y => agreeR ac bc x y)) = X ++ [xa]) := Lib.hid (by rw [Hst.out, hmet]; rfl)
            clear hmet Hst
            obtain ⟨v3, w3, hr3, ho3, ha3⟩ := LR.snoc Hok.out (Nat.zero_le lra) p1 q1 xa (Sl.below R1.out Row1.loc HBk.out (by omega)) (by omega) (fun q e => .inr (by have := (Ho.out.lt q e).1; omega)) rfl (by omega) (by omega)
            have HO3 := Lib.hid ho3
            have HB3 := Lib.hid (HBwk2.out.trans (ha3.below (B := w6.heap.size) (by omega) (fun q e => (Ho.out.lt q e).1)))
            clear ho3 ha3
            go_wp2_with (at_builtin; refine AtApp.of ?_)
            refine AtApp.go hr3 rfl rfl rfl rfl ?_
            go_wp2_with fail
            go_roundw
            case rel => exact ⟨i + 1, by omega, by go_num, by rw [Hst2.out]; exact HO3.out, HB3.out⟩
            case measure => simp [intOf]; omega
          · have Hst2 : Hid (((la.take (i + 1)).filter fun x => !(lb.any fun y => agreeR ac bc x y)) = X) := Lib.hid (by rw [Hst.out, hmet]; simp)
            clear hmet Hst
            go_wp2_with fail
            go_roundw
            case rel => exact ⟨i + 1, by omega, by go_num, by rw [Hst2.out]; exact Hok.out, HBwk2.out⟩
            case measure => simp [intOf]; omega
    · obtain rfl : i = la.length := by omega
      have llt : ¬ ((la.length : Nat) : Int) < (la.length : Int) := by omega
      have hO := Ho.out
      rw [List.take_length] at hO hfl hpo
      have HO : Hid (LR w6.heap.size 0 wo _ (withoutL ac la bc lb)) := Lib.hid hO
      have hwl : (withoutL ac la bc lb).length ≤ la.length := hfl
      change _ = Value.slice po (withoutL ac la bc lb).length co at hpo
      clear hO hfl
      have hll2 : (withoutL ac la bc lb).length ≤ 1000000000000 := by omega
      have HBm := Lib.hid HBo.out
      subst hpo
      go_wp2_with fail
      obtain ⟨wm, ewm⟩ : ∃ x, x = wo := ⟨_, rfl⟩
      subst ewm
      refine refMadeP_any 0 wm.heap.size lca hca ac _ _ (withoutL ac la bc lb) _ wm (Sl.below Ha.out Strs.loc HBw.out hha) (by omega) (HO.out.rws (Nat.zero_le _)) (Nat.le_refl _) hll2 (fun x hx => by
        rw [may_len Hm.out x (List.mem_filter.1 hx).1]; omega) (fun x hx => Hras.out x (List.mem_filter.1 hx).1) _ (fun w7 cv7 lv7 hB7 hT7 hO7 => ?_)
      generalize hE : madeErr ac (withoutL ac la bc lb) = err at *
      generalize okL err ac = oc at *
      generalize okL err (relCanon (withoutL ac la bc lb)) = ol at *
      obtain ⟨p7, q7, rfl, -, -, -, -⟩ := hT7.form
      obtain ⟨p8, q8, rfl, -, -, -, -⟩ := hO7.form
      have hzm := HBm.out.size
      have hB67 : Below w6.heap.size w6 w7 := HBm.out.trans (hB7.mono hzm)
      have hb7 := Hd3.out.below hB67 hld
      obtain ⟨e0, e1⟩ := hb7.cells.c2
      have f0 := hb7.free 0
      have f1 := hb7.free 1
      simp only [Nat.zero_add] at e1
      obtain ⟨t1, t2, t3⟩ := refTail (pc := p7) (pr := p8) (nc := oc.length) (nr := ol.length) (qc := q7) (qr := q8) hb7
      have hsz7 : w6.heap.size ≤ w7.heap.size := hB67.size
      have hwm : wm.heap.size ≤ w7.heap.size := hB7.size
      have hr := HR.out _ _ _ (((HW6.out.trans (hB67.mono (by omega))).setCell (p := ⟨w.heap.size + 1 + 1, 0, none⟩) (by show w.heap.size ≤ w.heap.size + 1 + 1; omega) (.slice p7 oc.length q7)).setCell (p := ⟨w.heap.size + 1 + 1, 1, none⟩) (by show w.heap.size ≤ w.heap.size + 1 + 1; omega) (.slice p8 ol.length q8)) (Sl.agree hT7 Strs.loc (t2 _ _ (.inr (by omega)))) (Sl.mono (Sl.agree hO7 rowE_loc (t2 _ _ (.inl (by omega)))) rowE_loc (by omega) (Nat.le_of_eq t3.symm))
      have Hr := Lib.hid hr
      have Ht := Lib.hid t1
      clear hr t1 t2 t3 hb7 hB67 hB7 hT7 hO7
      go_wp2_with fail
      exact ret_cell_tmp rfl rfl Ht.out rfl rfl Hr.out

end Go.Proofs.Ytpncblagjkbemaa
end

/- The document's Join. (Printed by mep.py, merf.py.) -/
section
set_option linter.unusedVariables false
set_option linter.unusedSimpArgs false
namespace Go.Proofs.Ytpncblagjkbemaa
open Go.RowKit
set_option linter.unusedVariables false
set_option linter.unusedSimpArgs false
attribute [local go_sem ↓] Go.wp_at_zero Go.wp_at_succ

theorem joinL_take (ac : List S) (la : List (List V)) (bc : List S) (lb : List (List V)) (i : Nat) (h : i < la.length) : joinL ac (la.take (i + 1)) bc lb = joinL ac (la.take i) bc lb ++ ((lb.filter (agreeR ac bc la[i])).map fun y => la[i] ++ pickL y (placesL (restC ac bc) bc)) := by
  unfold joinL
  rw [List.take_succ_eq_append_getElem h, List.flatMap_append]
  simp
theorem joinL_len (ac : List S) (la : List (List V)) (bc : List S) (lb : List (List V)) : (joinL ac la bc lb).length ≤ la.length * lb.length := by
  unfold joinL
  induction la with
  | nil => simp
  | cons a r ih =>
    rw [List.flatMap_cons, List.length_append, List.length_map, List.length_cons, Nat.succ_mul]
    have : (lb.filter (agreeR ac bc a)).length ≤ lb.length := List.length_filter_le _ _
    omega
theorem within_rest (a b : List S) : withinB (restC a b) b = true := within_sub (fun c h => (List.mem_filter.1 h).1)
set_option maxRecDepth 100000 in
set_option pp.deepTerms true in
set_option maxHeartbeats 16000000 in
theorem refJoin_any (lca hca lra hra lcb hcb lrb hrb : Nat) (ac bc : List S) (pa pb : Option Addr) (ca cb : Nat) (la lb : List (List V)) (lva lvb : Value) (w : World) (ha : Strs lca hca w (.slice pa ac.length ca) ac) (hha : hca ≤ w.heap.size) (hla : Rws lra hra w lva la) (hhla : hra ≤ w.heap.size) (hb : Strs lcb hcb w (.slice pb bc.length cb) bc) (hhb : hcb ≤ w.heap.size) (hlb : Rws lrb hrb w lvb lb) (hhlb : hrb ≤ w.heap.size) (hras : ∀ x ∈ la, ∀ a ∈ x, a.s.length ≤ 9223372036854775807) (hrbs : ∀ x ∈ lb, ∀ a ∈ x, a.s.length ≤ 9223372036854775807) (hll : la.length ≤ 1000000) (hllb : lb.length ≤ 1000000) (R : Ending → World → Prop)
    (hR : ∀ w' cv2 lv2, Below w.heap.size w w' → Strs w.heap.size w'.heap.size w' cv2 (okL (joinErr ac la bc lb) (joinCols ac bc)) → Rws w.heap.size w'.heap.size w' lv2 (okL (joinErr ac la bc lb) (relCanon (joinL ac la bc lb))) → R (.returned (.tuple #[.agg #[cv2, lv2], .int .i64 (joinErr ac la bc lb)])) w') :
    Calls Try.prog 42 #[.agg #[.slice pa ac.length ca, lva], .agg #[.slice pb bc.length cb, lvb]] w R := by
  have HR := Lib.hid hR
  have Ha := Lib.hid ha
  have Hb := Lib.hid hb
  have Hla := Lib.hid hla
  have Hlb := Lib.hid hlb
  have Hras := Lib.hid hras
  have Hrbs := Lib.hid hrbs
  obtain ⟨av, av2, rfl, -, -, -, -⟩ := hla.form
  obtain ⟨bv, bv2, rfl, -, -, -, -⟩ := hlb.form
  have hal63 := ha.len
  have hbl63 := hb.len
  clear hR ha hb hla hlb hras hrbs
  obtain ⟨wa, ewa⟩ : ∃ x, x = w.alloc (.cells #[.slice pa ac.length ca, .slice av la.length av2] 53) := ⟨_, rfl⟩
  obtain ⟨wb, ewb⟩ : ∃ x, x = wa.alloc (.cells #[.slice pb bc.length cb, .slice bv lb.length bv2] 53) := ⟨_, rfl⟩
  obtain ⟨w2, ew2⟩ : ∃ x, x = wb.alloc (.cells #[.slice none 0 0, .slice none 0 0] 53) := ⟨_, rfl⟩
  have sa : wa.heap.size = w.heap.size + 1 := by rw [ewa]; simp
  have sb : wb.heap.size = w.heap.size + 1 + 1 := by rw [ewb]; simp [sa]
  have hBa : Below w.heap.size w wa := by rw [ewa]; exact alloc_below _ _
  have hBb : Below wa.heap.size wa wb := by rw [ewb]; exact alloc_below _ _
  have hBc : Below wb.heap.size wb w2 := by rw [ew2]; exact alloc_below _ _
  have hb1 : Blk wa w.heap.size [.slice pa ac.length ca, .slice av la.length av2] 53 := by rw [ewa]; exact Blk.new w [.slice pa ac.length ca, .slice av la.length av2] _ rfl
  have hb2 : Blk wb (w.heap.size + 1) [.slice pb bc.length cb, .slice bv lb.length bv2] 53 := by rw [ewb]; exact Blk.new wa [.slice pb bc.length cb, .slice bv lb.length bv2] _ sa.symm
  have hb3 : Blk w2 (w.heap.size + 1 + 1) [.slice none 0 0, .slice none 0 0] 53 := by rw [ew2]; exact Blk.new wb [.slice none 0 0, .slice none 0 0] _ sb.symm
  have hb1 := (hb1.below hBb hb1.lt).below hBc (by omega)
  have hb2 := hb2.below hBc hb2.lt
  have hB := hBa.trans ((hBb.mono hBa.size).trans (hBc.mono (by omega)))
  go_enter Try.func42, Try.ntmps42
  go_upto_region 1 with fail
  rw [← ewa, ← ewb, ← ew2]
  clear ewa ewb ew2 hBa hBb hBc sa sb
  have HB := Lib.hid hB
  have Hb1 := Lib.hid hb1
  have Hb2 := Lib.hid hb2
  have Hb3 := Lib.hid hb3
  have hz2 := hB.size
  have hl3 := hb3.lt
  clear hb1 hb2 hb3 hB
  obtain ⟨c0, c1⟩ := Hb1.out.cells.c2
  simp only [Nat.zero_add] at c1
  go_wp2_with fail
  refine refMay_any lra hra lca hca ac _ _ la _ w2 (Sl.below Ha.out Strs.loc HB.out hha) (by omega) (Sl.below Hla.out rowE_loc HB.out hhla) (by omega) Hras.out _ (fun w5 hB5 => ?_)
  have hz5 := hB5.size
  have HA5 := Lib.hid hB5
  have HW5 := Lib.hid (HB.out.trans (hB5.mono hz2))
  clear hB5 c0 c1
  obtain ⟨c0, c1⟩ := (Hb2.out.below HA5.out (by omega)).cells.c2
  simp only [Nat.zero_add] at c1
  go_wp2_with fail
  refine refMay_any lrb hrb lcb hcb bc _ _ lb _ w5 (Sl.below Hb.out Strs.loc HW5.out hhb) (by omega) (Sl.below Hlb.out rowE_loc HW5.out hhlb) (by omega) Hrbs.out _ (fun w6 hB6 => ?_)
  have hz6 := hB6.size
  have HA6 := Lib.hid (HA5.out.trans (hB6.mono (by omega)))
  have HW6 := Lib.hid (HB.out.trans (HA6.out.mono hz2))
  clear hB6 c0 c1
  have Hd1 := Lib.hid (Hb1.out.below HA6.out (by omega))
  have Hd2 := Lib.hid (Hb2.out.below HA6.out (by omega))
  have Hd3 := Lib.hid (Hb3.out.below HA6.out hl3)
  have hld : w.heap.size + 1 + 1 < w6.heap.size := by omega
  obtain ⟨c0, c1⟩ := Hd1.out.cells.c2
  obtain ⟨d0, d1⟩ := Hd2.out.cells.c2
  simp only [Nat.zero_add] at c1 d1
  cases hm : mayRel ac la
  · obtain ⟨e0, e1⟩ := Hd3.out.cells.c2
    have f0 := Hd3.out.free 0
    have f1 := Hd3.out.free 1
    simp only [Nat.zero_add] at e1
    have he : joinErr ac la bc lb = 2 := by unfold joinErr; rw [hm]; rfl
    obtain ⟨t1, t2, t3⟩ := refTail (pc := none) (pr := none) (nc := 0) (nr := 0) (qc := 0) (qr := 0) Hd3.out
    have hr := HR.out _ _ _ ((HW6.out.setCell (p := ⟨w.heap.size + 1 + 1, 0, none⟩) (by show w.heap.size ≤ w.heap.size + 1 + 1; omega) (.slice none 0 0)).setCell (p := ⟨w.heap.size + 1 + 1, 1, none⟩) (by show w.heap.size ≤ w.heap.size + 1 + 1; omega) (.slice none 0 0)) (by rw [he]; exact Sl.nil _ _ _ _ _) (by rw [he]; exact Sl.nil _ _ _ _ _)
    rw [he] at hr
    have Hr := Lib.hid hr
    have Ht := Lib.hid t1
    clear hr t1 t2 t3 he hm
    go_wp2_with fail
    exact ret_cell_tmp rfl rfl Ht.out rfl rfl Hr.out
  have Hm := Lib.hid hm
  clear hm
  cases hmb : mayRel bc lb
  · obtain ⟨e0, e1⟩ := Hd3.out.cells.c2
    have f0 := Hd3.out.free 0
    have f1 := Hd3.out.free 1
    simp only [Nat.zero_add] at e1
    have he : joinErr ac la bc lb = 2 := by unfold joinErr; rw [Hm.out, hmb]; rfl
    obtain ⟨t1, t2, t3⟩ := refTail (pc := none) (pr := none) (nc := 0) (nr := 0) (qc := 0) (qr := 0) Hd3.out
    have hr := HR.out _ _ _ ((HW6.out.setCell (p := ⟨w.heap.size + 1 + 1, 0, none⟩) (by show w.heap.size ≤ w.heap.size + 1 + 1; omega) (.slice none 0 0)).setCell (p := ⟨w.heap.size + 1 + 1, 1, none⟩) (by show w.heap.size ≤ w.heap.size + 1 + 1; omega) (.slice none 0 0)) (by rw [he]; exact Sl.nil _ _ _ _ _) (by rw [he]; exact Sl.nil _ _ _ _ _)
    rw [he] at hr
    have Hr := Lib.hid hr
    have Ht := Lib.hid t1
    clear hr t1 t2 t3 he hmb
    go_wp2_with fail
    exact ret_cell_tmp rfl rfl Ht.out rfl rfl Hr.out
  have Hmb := Lib.hid hmb
  clear hmb
  have hmca := (may_many Hm.out).2
  have hmcb := (may_many Hmb.out).2
  have hrcl := rest_len ac bc
  have he : joinErr ac la bc lb = madeErr (joinCols ac bc) (joinL ac la bc lb) := by unfold joinErr; rw [Hm.out, Hmb.out]; rfl
  rw [he] at HR
  clear he
  have Hag : Hid (∀ x y, refAgreeB ac bc x y = agreeR ac bc x y) := Lib.hid (fun x y => agree_same x y (may_once Hm.out))
  obtain ⟨v8, w8, hr8, ho8, ha8⟩ := appTL (Own.nil strE 9 1 w6.heap.size w6) (Sl.below Ha.out Strs.loc HW6.out hha) (by simp; omega) (Nat.le_refl _)
  rw [List.nil_append] at ho8
  have hB8 : Below w6.heap.size w6 w8 := ha8.below (Nat.le_refl _) (fun k e => by cases e)
  have HB8 := Lib.hid hB8
  have Ho8 := Lib.hid ho8
  have Hr8 := Lib.hid hr8
  have hz8 := hB8.size
  clear hr8 ho8 ha8 hB8
  go_wp2_with (at_builtin; refine AtApp.of ?_)
  refine AtApp.go Hr8.out rfl rfl rfl rfl ?_
  obtain ⟨p8, q8, rfl⟩ := Own.slice Ho8.out
  clear c0 c1 d0 d1
  go_wp2_with fail
  go_loopw [9, 10] (fun t9 t10 wr => ∃ (k : Nat), k ≤ bc.length ∧ t10 = .int .i64 k ∧ OwnT w8.heap.size wr t9 (restC ac (bc.take k)) ∧ Below w8.heap.size w8 wr) (fun _ t10 _ => bc.length - (intOf t10).toNat)
  case atStart => exact ⟨0, Nat.zero_le _, rfl, Own.nil _ _ _ _ _, Below.refl _ _⟩
  case round =>
    obtain ⟨k, hk, rfl, ho, hB⟩ := hrel
    obtain ⟨wo, ewo⟩ : ∃ x, x = wr := ⟨_, rfl⟩
    subst ewo
    have Ho := Lib.hid ho
    have HBo := Lib.hid hB
    have HB6o := Lib.hid (HB8.out.trans (hB.mono (by omega)))
    have HBw := Lib.hid (HW6.out.trans (HB6o.out.mono (by omega)))
    have hzo := hB.size
    have Hbo1 := Lib.hid (Hd1.out.below HB6o.out (by omega))
    have Hbo2 := Lib.hid (Hd2.out.below HB6o.out (by omega))
    have kk0 : (0 : Int) ≤ (k : Int) := by omega
    obtain ⟨po, co, hpo⟩ := Own.slice ho
    have hfl : (restC ac (bc.take k)).length ≤ k := Nat.le_trans (List.length_filter_le _ _) (by rw [List.length_take]; omega)
    clear ho hB
    obtain ⟨c0, c1⟩ := Hbo1.out.cells.c2
    obtain ⟨d0, d1⟩ := Hbo2.out.cells.c2
    simp only [Nat.zero_add] at c1 d1
    by_cases hlt : k < bc.length
    · have kkl : (k : Int) < (bc.length : Int) := by omega
      obtain ⟨b4, o4, rfl, hb4, hst4⟩ := Strs.at (Sl.below Hb.out Strs.loc HBw.out hhb) (by omega) (by omega)
      have G4 := Lib.hid (hst4 k hlt)
      have Hst := Lib.hid (rest_succ ac bc k hlt)
      clear hst4
      generalize bc[k] = s at *
      generalize hX : restC ac (bc.take k) = X at *
      subst hpo
      go_upto_region 10 with fail
      have hS0 : Below wo.heap.size wo wo.drew := (Below.refl _ _).drew
      refine wp_region_held_drew (S := fun w' => Below wo.heap.size wo w') (by kernel_rfl) hS0 (fun hHeld => ?_)
      refine wpAnyH_take (i := 0) (v := .pointer (some ⟨w.heap.size, 0, none⟩)) rfl (by kernel_rfl) (by kernel_rfl) (by kernel_rfl) (fun _ _ _ h => h) (Or.inl ⟨by rfl, ?_⟩) hHeld ?_
      · intro w' hSw; go_simp
      try simp only [Act.put, List.getElem_toArray, List.getElem_cons_succ, List.getElem_cons_zero, List.setIfInBounds_toArray, List.set_cons_zero, List.set_cons_succ]
      refine wpAnyH_take (i := 1) (v := .slice pa ac.length ca) rfl (by kernel_rfl) (by kernel_rfl) (by kernel_rfl) (fun _ _ _ h => h) (Or.inl ⟨by rfl, ?_⟩) hHeld ?_
      · intro w' hSw; obtain ⟨z0, z1⟩ := (Hbo1.out.below hSw (by omega)).cells.c2; simp only [Nat.zero_add] at z1; go_simp
      try simp only [Act.put, List.getElem_toArray, List.getElem_cons_succ, List.getElem_cons_zero, List.setIfInBounds_toArray, List.set_cons_zero, List.set_cons_succ]
      refine wpAnyH_take (i := 2) (v := .pointer (some ⟨w.heap.size + 1, 0, none⟩)) rfl (by kernel_rfl) (by kernel_rfl) (by kernel_rfl) (fun _ _ _ h => h) (Or.inl ⟨by rfl, ?_⟩) hHeld ?_
      · intro w' hSw; go_simp
      try simp only [Act.put, List.getElem_toArray, List.getElem_cons_succ, List.getElem_cons_zero, List.setIfInBounds_toArray, List.set_cons_zero, List.set_cons_succ]
      refine wpAnyH_take (i := 3) (v := .slice (some ⟨b4, o4, none⟩) bc.length cb) rfl (by kernel_rfl) (by kernel_rfl) (by kernel_rfl) (fun _ _ _ h => h) (Or.inl ⟨by rfl, ?_⟩) hHeld ?_
      · intro w' hSw; obtain ⟨z0, z1⟩ := (Hbo2.out.below hSw (by omega)).cells.c2; simp only [Nat.zero_add] at z1; go_simp
      try simp only [Act.put, List.getElem_toArray, List.getElem_cons_succ, List.getElem_cons_zero, List.setIfInBounds_toArray, List.set_cons_zero, List.set_cons_succ]
      refine wpAnyH_take (i := 4) (v := .int .i64 ((k : Int))) rfl (by kernel_rfl) (by kernel_rfl) (by kernel_rfl) (fun _ _ _ h => h) (Or.inl ⟨by rfl, ?_⟩) hHeld ?_
      · intro w' hSw; go_simp
      try simp only [Act.put, List.getElem_toArray, List.getElem_cons_succ, List.getElem_cons_zero, List.setIfInBounds_toArray, List.set_cons_zero, List.set_cons_succ]
      refine wpAnyH_take (i := 5) (v := .pointer (some ⟨b4, o4 + k, none⟩)) rfl (by kernel_rfl) (by kernel_rfl) (by kernel_rfl) (fun _ _ _ h => h) (Or.inl ⟨by rfl, ?_⟩) hHeld ?_
      · intro w' hSw; go_simp
      try simp only [Act.put, List.getElem_toArray, List.getElem_cons_succ, List.getElem_cons_zero, List.setIfInBounds_toArray, List.set_cons_zero, List.set_cons_succ]
      refine wpAnyH_take (i := 6) (v := .string ⟨s.toArray⟩) rfl (by kernel_rfl) (by kernel_rfl) (by kernel_rfl) (fun _ _ _ h => h) (Or.inl ⟨by rfl, ?_⟩) hHeld ?_
      · intro w' hSw; have kx := G4.out w' hSw; go_simp
      try simp only [Act.put, List.getElem_toArray, List.getElem_cons_succ, List.getElem_cons_zero, List.setIfInBounds_toArray, List.set_cons_zero, List.set_cons_succ]
      refine wpAnyH_ready (rs := [7]) (by kernel_rfl) (by simp) ?_
      refine allCall (f := 88) (args := #[.slice pa ac.length ca, .string ⟨s.toArray⟩]) rfl (by kernel_rfl) (by kernel_rfl) ?_ AllReadyH.nil
      refine place_any lca hca ac s _ wo.drew (Sl.below Ha.out Strs.loc (HBw.out.trans (hS0.mono (by omega))) hha) _ ?_
      refine ⟨_, rfl, hS0, ?_⟩
      try simp only [Act.put, List.getElem_toArray, List.getElem_cons_succ, List.getElem_cons_zero, List.setIfInBounds_toArray, List.set_cons_zero, List.set_cons_succ]
      refine wpAnyH_take (i := 8) (v := .int .i64 (placeI ac s)) rfl (by kernel_rfl) (by kernel_rfl) (by kernel_rfl) (fun _ _ _ h => h) (Or.inl ⟨by rfl, ?_⟩) hHeld ?_
      · intro w' hSw; go_simp
      try simp only [Act.put, List.getElem_toArray, List.getElem_cons_succ, List.getElem_cons_zero, List.setIfInBounds_toArray, List.set_cons_zero, List.set_cons_succ]
      refine wpAnyH_done (by kernel_rfl) ?_ _
      clear hHeld
      have HBd := Lib.hid (HBo.out.drew)
      have Hod := Lib.hid (Ho.out.kept hS0)
      have G4d := G4.out wo.drew hS0
      have hpl := placeI_lt ac s
      by_cases hp : 0 ≤ placeI ac s
      · have hp2 : ¬ placeI ac s < 0 := by omega
        have Hst2 : Hid (restC ac (bc.take (k + 1)) = X) := Lib.hid (by rw [Hst.out, if_pos hp, List.append_nil])
        clear Hst hS0
        generalize placeI ac s = pq at *
        go_wp2_with fail
        go_roundw
        case rel => exact ⟨k + 1, by omega, by go_num, by rw [Hst2.out]; exact Hod.out, HBd.out⟩
        case measure => simp [intOf]; omega
      · have hp2 : placeI ac s < 0 := by omega
        have Hst2 : Hid (restC ac (bc.take (k + 1)) = X ++ [s]) := Lib.hid (by rw [Hst.out, if_neg hp])
        obtain ⟨v3, w3, hr3, ho3, ha3⟩ := appT1 Hod.out s rfl (by omega) (show w8.heap.size ≤ wo.heap.size by omega)
        have HO3 := Lib.hid ho3
        have HB3 := Lib.hid (HBd.out.trans (ha3.below (B := w8.heap.size) (show w8.heap.size ≤ wo.heap.size by omega) (fun q e => (Own.lt Ho.out q e).1)))
        have Hr3 := Lib.hid hr3
        clear ho3 ha3 hr3 Hst hS0 c0 c1 d0 d1
        obtain ⟨c0, c1⟩ := Hbo1.out.drew.cells.c2
        obtain ⟨d0, d1⟩ := Hbo2.out.drew.cells.c2
        simp only [Nat.zero_add] at c1 d1
        generalize placeI ac s = pq at *
        go_wp2_with (at_builtin; refine AtApp.of ?_)
        refine AtApp.go Hr3.out rfl rfl rfl rfl ?_
        go_wp2_with fail
        go_roundw
        case rel => exact ⟨k + 1, by omega, by go_num, by rw [Hst2.out]; exact HO3.out, HB3.out⟩
        case measure => simp [intOf]; omega
    · obtain rfl : k = bc.length := by omega
      have llt : ¬ ((bc.length : Nat) : Int) < (bc.length : Int) := by omega
      have hO := Ho.out
      rw [List.take_length] at hO hpo
      have HO9 := Lib.hid hO
      clear hO hfl
      subst hpo
      have Ho8o := Lib.hid (Ho8.out.kept HBo.out)
      have Hs9 := Lib.hid (OwnT.sl HO9.out)
      obtain ⟨v9, w9, hr9, ho9, ha9⟩ := appTL Ho8o.out Hs9.out (by omega) (show w6.heap.size ≤ wo.heap.size by omega)
      have hB9 : Below w6.heap.size wo w9 := ha9.below (show w6.heap.size ≤ wo.heap.size by omega) (fun q e => (Own.lt Ho8.out q e).1)
      have hz9 : wo.heap.size ≤ w9.heap.size := ha9.grown.size
      have Hs9b : Hid (Strs w8.heap.size wo.heap.size w9 (.slice po (restC ac bc).length co) (restC ac bc)) := Lib.hid (Sl.agree Hs9.out Strs.loc (ha9.agree (Nat.le_refl _) (fun q e => .inl (Own.lt Ho8.out q e).2)))
      have Hc9 : Hid (Strs w6.heap.size w9.heap.size w9 v9 (joinCols ac bc)) := Lib.hid (OwnT.sl ho9)
      have HB69 := Lib.hid (HB6o.out.trans hB9)
      have Hr9 := Lib.hid hr9
      clear hr9 ho9 ha9 hB9 c0 c1 d0 d1
      have HW9 := Lib.hid (HW6.out.trans (HB69.out.mono (by omega)))
      have He1 := Lib.hid (Hd1.out.below HB69.out (by omega))
      have He2 := Lib.hid (Hd2.out.below HB69.out (by omega))
      have He3 := Lib.hid (Hd3.out.below HB69.out hld)
      clear Hs9 Ho8o HO9 Ho Hbo1 Hbo2
      obtain ⟨c0, c1⟩ := (Hd1.out.below HB6o.out (by omega)).cells.c2
      obtain ⟨d0, d1⟩ := (Hd2.out.below HB6o.out (by omega)).cells.c2
      simp only [Nat.zero_add] at c1 d1
      go_wp2_with (at_builtin; refine AtApp.of ?_)
      refine AtApp.go Hr9.out rfl rfl rfl rfl ?_
      obtain ⟨p9, q9, rfl, -, -, -, -⟩ := Hc9.out.form
      clear c0 c1 d0 d1
      go_wp2_with fail
      have hcapJ : la.length * lb.length ≤ 1000000000000 := Nat.mul_le_mul hll hllb
      go_loopw [12, 13] (fun t12 t13 wr => ∃ (i : Nat), i ≤ la.length ∧ t13 = .int .i64 i ∧ LR w9.heap.size 0 wr t12 (joinL ac (la.take i) bc lb) ∧ Below w9.heap.size w9 wr) (fun _ t13 _ => la.length - (intOf t13).toNat)
      case atStart => exact ⟨0, Nat.zero_le _, rfl, LR.nil _ _ _, Below.refl _ _⟩
      case round =>
        obtain ⟨i, hi, rfl, ho, hB⟩ := hrel
        obtain ⟨wi, ewi⟩ : ∃ x, x = wr := ⟨_, rfl⟩
        subst ewi
        have Hoi := Lib.hid ho
        have HBi := Lib.hid hB
        have hzi := hB.size
        have ii0 : (0 : Int) ≤ (i : Int) := by omega
        obtain ⟨pi, ci, hpi⟩ := ho.slice
        have hjl : (joinL ac (la.take i) bc lb).length + lb.length ≤ 2000000000000 := by
          have h1 := joinL_len ac (la.take i) bc lb
          have h2 : (la.take i).length * lb.length ≤ la.length * lb.length := Nat.mul_le_mul_right _ (by rw [List.length_take]; omega)
          omega
        obtain ⟨c0, c1⟩ := (He1.out.below hB (by omega)).cells.c2
        obtain ⟨d0, d1⟩ := (He2.out.below hB (by omega)).cells.c2
        simp only [Nat.zero_add] at c1 d1
        clear ho hB
        by_cases hlt : i < la.length
        · have iil : (i : Int) < (la.length : Int) := by omega
          obtain ⟨b3, o3, rfl, hb3, hrow3⟩ := Rws.at (Sl.below Hla.out rowE_loc HW9.out hhla) (by omega) (by omega)
          obtain ⟨p1, q1, g1, r1⟩ := hrow3 i hlt
          have G1 := Lib.hid g1
          have R1 := Lib.hid r1
          have Hst := Lib.hid (joinL_take ac la bc lb i hlt)
          have Hxl : Hid (la[i].length = ac.length) := Lib.hid (may_len Hm.out _ (List.getElem_mem hlt))
          have Hxs : Hid (∀ a ∈ la[i], a.s.length ≤ 9223372036854775807) := Lib.hid (Hras.out _ (List.getElem_mem hlt))
          clear hrow3 g1 r1
          generalize la[i] = xa at *
          generalize hX : joinL ac (la.take i) bc lb = X at *
          go_wp2_with fail
          go_loopw [12, 14] (fun t12 t14 wk => ∃ (k : Nat), k ≤ lb.length ∧ t14 = .int .i64 k ∧ LR w9.heap.size 0 wk t12 (X ++ (((lb.take k).filter (agreeR ac bc xa)).map fun y => xa ++ pickL y (placesL (restC ac bc) bc))) ∧ Below w9.heap.size w9 wk) (fun _ t14 _ => lb.length - (intOf t14).toNat)
          case atStart => exact ⟨0, Nat.zero_le _, rfl, by simpa using Hoi.out, HBi.out⟩
          case round =>
            obtain ⟨k, hk, rfl, ho, hB⟩ := hrel
            obtain ⟨wk, ewk⟩ : ∃ x, x = wr := ⟨_, rfl⟩
            subst ewk
            have Hok := Lib.hid ho
            have HBk := Lib.hid hB
            have HBwk := Lib.hid (HW9.out.trans (hB.mono (by omega)))
            have hzk := hB.size
            have Hbk1 := Lib.hid (He1.out.below hB (by omega))
            have Hbk2 := Lib.hid (He2.out.below hB (by omega))
            have kk0 : (0 : Int) ≤ (k : Int) := by omega
            obtain ⟨po2, co2, hpo2⟩ := ho.slice
            have hjk : (X ++ (((lb.take k).filter (agreeR ac bc xa)).map fun y => xa ++ pickL y (placesL (restC ac bc) bc))).length ≤ 2000000000000 := by
              rw [List.length_append, List.length_map]
              have h1 := List.length_filter_le (agreeR ac bc xa) (lb.take k)
              rw [List.length_take] at h1
              omega
            clear ho hB c0 c1 d0 d1
            obtain ⟨c0, c1⟩ := Hbk1.out.cells.c2
            obtain ⟨d0, d1⟩ := Hbk2.out.cells.c2
            simp only [Nat.zero_add] at c1 d1
            by_cases hlk : k < lb.length
            · have kkl : (k : Int) < (lb.length : Int) := by omega
              obtain ⟨b4, o4, rfl, hb4, hrow4⟩ := Rws.at (Sl.below Hlb.out rowE_loc HW9.out hhlb) (by omega) (by omega)
              obtain ⟨p2, q2, g2, r2⟩ := hrow4 k hlk
              have G2 := Lib.hid g2
              have R2 := Lib.hid r2
              have Hsk : Hid (((lb.take (k + 1)).filter (agreeR ac bc xa)).map (fun y => xa ++ pickL y (placesL (restC ac bc) bc)) = (((lb.take k).filter (agreeR ac bc xa)).map fun y => xa ++ pickL y (placesL (restC ac bc) bc)) ++ (if agreeR ac bc xa lb[k] = true then [xa ++ pickL lb[k] (placesL (restC ac bc) bc)] else [])) := Lib.hid (by
                rw [List.take_succ_eq_append_getElem hlk, List.filter_append, List.filter_cons, List.filter_nil, List.map_append]
                cases agreeR ac bc xa lb[k] <;> rfl)
              have Hyl : Hid (lb[k].length = bc.length) := Lib.hid (may_len Hmb.out _ (List.getElem_mem hlk))
              have Hys : Hid (∀ a ∈ lb[k], a.s.length ≤ 9223372036854775807) := Lib.hid (Hrbs.out _ (List.getElem_mem hlk))
              have Hmet := Lib.hid (Hag.out xa lb[k])
              clear hrow4 g2 r2
              generalize lb[k] = xb at *
              generalize hXK : X ++ (((lb.take k).filter (agreeR ac bc xa)).map fun y => xa ++ pickL y (placesL (restC ac bc) bc)) = XK at *
              have HXK := Lib.hid hXK
              clear hXK
              subst hpo2
              go_upto_region 21 with fail
              have hS0 : Below wk.heap.size wk wk.drew := (Below.refl _ _).drew
              refine wp_region_held_drew (S := fun w' => Below wk.heap.size wk w') (by kernel_rfl) hS0 (fun hHeld => ?_)
              refine wpAnyH_take (i := 0) (v := .agg #[.slice pa ac.length ca, .slice (some ⟨b3, o3, none⟩) la.length av2]) rfl (by kernel_rfl) (by kernel_rfl) (by kernel_rfl) (fun _ _ _ h => h) (Or.inl ⟨by rfl, ?_⟩) hHeld ?_
              · intro w' hSw; obtain ⟨z0, z1⟩ := (Hbk1.out.below hSw (by omega)).cells.c2; simp only [Nat.zero_add] at z1; go_simp
              try simp only [Act.put, List.getElem_toArray, List.getElem_cons_succ, List.getElem_cons_zero, List.setIfInBounds_toArray, List.set_cons_zero, List.set_cons_succ]
              refine wpAnyH_take (i := 1) (v := .agg #[.slice pb bc.length cb, .slice (some ⟨b4, o4, none⟩) lb.length bv2]) rfl (by kernel_rfl) (by kernel_rfl) (by kernel_rfl) (fun _ _ _ h => h) (Or.inl ⟨by rfl, ?_⟩) hHeld ?_
              · intro w' hSw; obtain ⟨z0, z1⟩ := (Hbk2.out.below hSw (by omega)).cells.c2; simp only [Nat.zero_add] at z1; go_simp
              try simp only [Act.put, List.getElem_toArray, List.getElem_cons_succ, List.getElem_cons_zero, List.setIfInBounds_toArray, List.set_cons_zero, List.set_cons_succ]
              refine wpAnyH_take (i := 2) (v := .pointer (some ⟨w.heap.size, 1, none⟩)) rfl (by kernel_rfl) (by kernel_rfl) (by kernel_rfl) (fun _ _ _ h => h) (Or.inl ⟨by rfl, ?_⟩) hHeld ?_
              · intro w' hSw; go_simp
              try simp only [Act.put, List.getElem_toArray, List.getElem_cons_succ, List.getElem_cons_zero, List.setIfInBounds_toArray, List.set_cons_zero, List.set_cons_succ]
              refine wpAnyH_take (i := 3) (v := .slice (some ⟨b3, o3, none⟩) la.length av2) rfl (by kernel_rfl) (by kernel_rfl) (by kernel_rfl) (fun _ _ _ h => h) (Or.inl ⟨by rfl, ?_⟩) hHeld ?_
              · intro w' hSw; obtain ⟨z0, z1⟩ := (Hbk1.out.below hSw (by omega)).cells.c2; simp only [Nat.zero_add] at z1; go_simp
              try simp only [Act.put, List.getElem_toArray, List.getElem_cons_succ, List.getElem_cons_zero, List.setIfInBounds_toArray, List.set_cons_zero, List.set_cons_succ]
              refine wpAnyH_take (i := 4) (v := .int .i64 ((i : Int))) rfl (by kernel_rfl) (by kernel_rfl) (by kernel_rfl) (fun _ _ _ h => h) (Or.inl ⟨by rfl, ?_⟩) hHeld ?_
              · intro w' hSw; go_simp
              try simp only [Act.put, List.getElem_toArray, List.getElem_cons_succ, List.getElem_cons_zero, List.setIfInBounds_toArray, List.set_cons_zero, List.set_cons_succ]
              refine wpAnyH_take (i := 5) (v := .pointer (some ⟨b3, o3 + i, none⟩)) rfl (by kernel_rfl) (by kernel_rfl) (by kernel_rfl) (fun _ _ _ h => h) (Or.inl ⟨by rfl, ?_⟩) hHeld ?_
              · intro w' hSw; go_simp
              try simp only [Act.put, List.getElem_toArray, List.getElem_cons_succ, List.getElem_cons_zero, List.setIfInBounds_toArray, List.set_cons_zero, List.set_cons_succ]
              refine wpAnyH_take (i := 6) (v := .slice p1 xa.length q1) rfl (by kernel_rfl) (by kernel_rfl) (by kernel_rfl) (fun _ _ _ h => h) (Or.inl ⟨by rfl, ?_⟩) hHeld ?_
              · intro w' hSw; have kx := G1.out w' (HBk.out.trans (hSw.mono (by omega))); go_simp
              try simp only [Act.put, List.getElem_toArray, List.getElem_cons_succ, List.getElem_cons_zero, List.setIfInBounds_toArray, List.set_cons_zero, List.set_cons_succ]
              refine wpAnyH_take (i := 7) (v := .pointer (some ⟨w.heap.size + 1, 1, none⟩)) rfl (by kernel_rfl) (by kernel_rfl) (by kernel_rfl) (fun _ _ _ h => h) (Or.inl ⟨by rfl, ?_⟩) hHeld ?_
              · intro w' hSw; go_simp
              try simp only [Act.put, List.getElem_toArray, List.getElem_cons_succ, List.getElem_cons_zero, List.setIfInBounds_toArray, List.set_cons_zero, List.set_cons_succ]
              refine wpAnyH_take (i := 8) (v := .slice (some ⟨b4, o4, none⟩) lb.length bv2) rfl (by kernel_rfl) (by kernel_rfl) (by kernel_rfl) (fun _ _ _ h => h) (Or.inl ⟨by rfl, ?_⟩) hHeld ?_
              · intro w' hSw; obtain ⟨z0, z1⟩ := (Hbk2.out.below hSw (by omega)).cells.c2; simp only [Nat.zero_add] at z1; go_simp
              try simp only [Act.put, List.getElem_toArray, List.getElem_cons_succ, List.getElem_cons_zero, List.setIfInBounds_toArray, List.set_cons_zero, List.set_cons_succ]
              refine wpAnyH_take (i := 9) (v := .int .i64 ((k : Int))) rfl (by kernel_rfl) (by kernel_rfl) (by kernel_rfl) (fun _ _ _ h => h) (Or.inl ⟨by rfl, ?_⟩) hHeld ?_
              · intro w' hSw; go_simp
              try simp only [Act.put, List.getElem_toArray, List.getElem_cons_succ, List.getElem_cons_zero, List.setIfInBounds_toArray, List.set_cons_zero, List.set_cons_succ]
              refine wpAnyH_take (i := 10) (v := .pointer (some ⟨b4, o4 + k, none⟩)) rfl (by kernel_rfl) (by kernel_rfl) (by kernel_rfl) (fun _ _ _ h => h) (Or.inl ⟨by rfl, ?_⟩) hHeld ?_
              · intro w' hSw; go_simp
              try simp only [Act.put, List.getElem_toArray, List.getElem_cons_succ, List.getElem_cons_zero, List.setIfInBounds_toArray, List.set_cons_zero, List.set_cons_succ]
              refine wpAnyH_take (i := 11) (v := .slice p2 xb.length q2) rfl (by kernel_rfl) (by kernel_rfl) (by kernel_rfl) (fun _ _ _ h => h) (Or.inl ⟨by rfl, ?_⟩) hHeld ?_
              · intro w' hSw; have kx := G2.out w' (HBk.out.trans (hSw.mono (by omega))); go_simp
              try simp only [Act.put, List.getElem_toArray, List.getElem_cons_succ, List.getElem_cons_zero, List.setIfInBounds_toArray, List.set_cons_zero, List.set_cons_succ]
              refine wpAnyH_ready (rs := [12]) (by kernel_rfl) (by simp) ?_
              refine allCall (f := 89) (args := #[.agg #[.slice pa ac.length ca, .slice (some ⟨b3, o3, none⟩) la.length av2], .agg #[.slice pb bc.length cb, .slice (some ⟨b4, o4, none⟩) lb.length bv2], .slice p1 xa.length q1, .slice p2 xb.length q2]) rfl (by kernel_rfl) (by kernel_rfl) ?_ AllReadyH.nil
              have HBd := Lib.hid (HBwk.out.trans (hS0.mono (by omega)))
              have HB9k := Lib.hid (HBk.out.trans (hS0.mono (by omega)))
              refine refAgree_any lca hca lcb hcb lra hra lrb hrb ac bc _ _ _ _ _ _ _ _ _ _ xa xb _ _ wk.drew (Sl.below Ha.out Strs.loc HBd.out hha) (by show hca ≤ wk.heap.size; omega) (Sl.below Hb.out Strs.loc HBd.out hhb) (by show hcb ≤ wk.heap.size; omega) (Sl.below R1.out Row1.loc HB9k.out (by omega)) (by show hra ≤ wk.heap.size; omega) (Sl.below R2.out Row1.loc HB9k.out (by omega)) (by show hrb ≤ wk.heap.size; omega) Hxl.out Hyl.out Hxs.out Hys.out (by omega) (by omega) _ (fun wq hBq => ?_)
              have hBq' : Below wk.heap.size wk wq := hS0.trans hBq
              refine ⟨_, rfl, hBq', ?_⟩
              have HBq := Lib.hid hBq'
              clear hBq' hBq hHeld
              have hHeld := HBq.out
              try simp only [Act.put, List.getElem_toArray, List.getElem_cons_succ, List.getElem_cons_zero, List.setIfInBounds_toArray, List.set_cons_zero, List.set_cons_succ]
              refine wpAnyH_take (i := 13) (v := .bool (refAgreeB ac bc xa xb)) rfl (by kernel_rfl) (by kernel_rfl) (by kernel_rfl) (fun _ _ _ h => h) (Or.inl ⟨by rfl, ?_⟩) hHeld ?_
              · intro w' hSw; go_simp
              try simp only [Act.put, List.getElem_toArray, List.getElem_cons_succ, List.getElem_cons_zero, List.setIfInBounds_toArray, List.set_cons_zero, List.set_cons_succ]
              refine wpAnyH_done (by kernel_rfl) ?_ _
              clear hHeld
              have HBq2 := Lib.hid (HBk.out.trans (HBq.out.mono (by omega)))
              have hzq := HBq.out.size
              rw [Hmet.out]
              cases hbv : agreeR ac bc xa xb
              · have Hsk2 : Hid (X ++ ((lb.take (k + 1)).filter (agreeR ac bc xa)).map (fun y => xa ++ pickL y (placesL (restC ac bc) bc)) = XK) := Lib.hid (by rw [Hsk.out, hbv, ← HXK.out]; simp)
                have Hok2 := Lib.hid (Hok.out.kept HBq.out)
                clear hbv Hsk
                go_wp2_with fail
                go_roundw
                case rel => exact ⟨k + 1, by omega, by go_num, by rw [Hsk2.out]; exact Hok2.out, HBq2.out⟩
                case measure => simp [intOf]; omega
              · have Hsk2 : Hid (X ++ ((lb.take (k + 1)).filter (agreeR ac bc xa)).map (fun y => xa ++ pickL y (placesL (restC ac bc) bc)) = XK ++ [xa ++ pickL xb (placesL (restC ac bc) bc)]) := Lib.hid (by rw [Hsk.out, hbv, ← HXK.out, List.append_assoc]; rfl)
                have hxa : xa.length ≤ 32 := by rw [Hxl.out]; exact hmca
                obtain ⟨vx, wx, hrx, hox, hax⟩ := appVL (Own.nil V.enc 24 3 wq.heap.size wq) (Sl.below R1.out Row1.loc HBq2.out (by omega)) (by simp; omega) (Nat.le_refl _)
                rw [List.nil_append] at hox
                have hBx : Below wq.heap.size wq wx := hax.below (Nat.le_refl _) (fun k e => by cases e)
                have HBx := Lib.hid hBx
                have Hox := Lib.hid hox
                have Hrx := Lib.hid hrx
                have hzx := hBx.size
                have Gk := G1.out wq HBq2.out
                clear hrx hox hax hBx hbv Hsk c0 c1 d0 d1
                obtain ⟨c0, c1⟩ := (He1.out.below HBq2.out (by omega)).cells.c2
                simp only [Nat.zero_add] at c1
                go_wp2_with (at_builtin; refine AtApp.of ?_)
                refine AtApp.go Hrx.out rfl rfl rfl rfl ?_
                obtain ⟨px, qx, rfl⟩ := Own.slice Hox.out
                have HB9x := Lib.hid (HBq2.out.trans (HBx.out.mono (by omega)))
                clear c0 c1 Gk
                go_upto_region 25 with fail
                have HB9d : Hid (Below w9.heap.size w9 wx.drew) := Lib.hid HB9x.out.drew
                have Hoxd : Hid (OwnV wq.heap.size wx.drew (.slice px xa.length qx) xa) := Lib.hid (Own.kept Hox.out ((Below.refl _ _).drew))
                have HBqd : Hid (Below wq.heap.size wq wx.drew) := Lib.hid HBx.out.drew
                have hzd : wq.heap.size ≤ wx.drew.heap.size := hzx
                have hS0 : Only (fun z => (Value.slice px xa.length qx).ownBlock = some z) wx.drew wx.drew := Only.refl _ _
                refine wp_region_held_drew (S := fun w' => Only (fun z => (Value.slice px xa.length qx).ownBlock = some z) wx.drew w') (by kernel_rfl) hS0 (fun hHeld => ?_)
                clear hS0
                generalize wx.drew = wy at *
                have HSB : Hid (∀ w', Only (fun z => (Value.slice px xa.length qx).ownBlock = some z) wy w' → Below w9.heap.size w9 w') := Lib.hid (fun w' h => HB9d.out.trans (h.below (by omega) (fun z hz => by have := (Own.lt Hoxd.out z hz).1; omega)))
                refine wpAnyH_take (i := 0) (v := .slice px xa.length qx) rfl (by kernel_rfl) (by kernel_rfl) (by kernel_rfl) (fun _ _ _ h => h) (Or.inl ⟨by rfl, ?_⟩) hHeld ?_
                · intro w' hSw; go_simp
                try simp only [Act.put, List.getElem_toArray, List.getElem_cons_succ, List.getElem_cons_zero, List.setIfInBounds_toArray, List.set_cons_zero, List.set_cons_succ]
                refine wpAnyH_take (i := 1) (v := .pointer (some ⟨w.heap.size + 1, 1, none⟩)) rfl (by kernel_rfl) (by kernel_rfl) (by kernel_rfl) (fun _ _ _ h => h) (Or.inl ⟨by rfl, ?_⟩) hHeld ?_
                · intro w' hSw; go_simp
                try simp only [Act.put, List.getElem_toArray, List.getElem_cons_succ, List.getElem_cons_zero, List.setIfInBounds_toArray, List.set_cons_zero, List.set_cons_succ]
                refine wpAnyH_take (i := 2) (v := .slice (some ⟨b4, o4, none⟩) lb.length bv2) rfl (by kernel_rfl) (by kernel_rfl) (by kernel_rfl) (fun _ _ _ h => h) (Or.inl ⟨by rfl, ?_⟩) hHeld ?_
                · intro w' hSw; obtain ⟨z0, z1⟩ := (He2.out.below (HSB.out w' hSw) (by omega)).cells.c2; simp only [Nat.zero_add] at z1; go_simp
                try simp only [Act.put, List.getElem_toArray, List.getElem_cons_succ, List.getElem_cons_zero, List.setIfInBounds_toArray, List.set_cons_zero, List.set_cons_succ]
                refine wpAnyH_take (i := 3) (v := .int .i64 ((k : Int))) rfl (by kernel_rfl) (by kernel_rfl) (by kernel_rfl) (fun _ _ _ h => h) (Or.inl ⟨by rfl, ?_⟩) hHeld ?_
                · intro w' hSw; go_simp
                try simp only [Act.put, List.getElem_toArray, List.getElem_cons_succ, List.getElem_cons_zero, List.setIfInBounds_toArray, List.set_cons_zero, List.set_cons_succ]
                refine wpAnyH_take (i := 4) (v := .pointer (some ⟨b4, o4 + k, none⟩)) rfl (by kernel_rfl) (by kernel_rfl) (by kernel_rfl) (fun _ _ _ h => h) (Or.inl ⟨by rfl, ?_⟩) hHeld ?_
                · intro w' hSw; go_simp
                try simp only [Act.put, List.getElem_toArray, List.getElem_cons_succ, List.getElem_cons_zero, List.setIfInBounds_toArray, List.set_cons_zero, List.set_cons_succ]
                refine wpAnyH_take (i := 5) (v := .slice p2 xb.length q2) rfl (by kernel_rfl) (by kernel_rfl) (by kernel_rfl) (fun _ _ _ h => h) (Or.inl ⟨by rfl, ?_⟩) hHeld ?_
                · intro w' hSw; have kx := G2.out w' (HSB.out w' hSw); go_simp
                try simp only [Act.put, List.getElem_toArray, List.getElem_cons_succ, List.getElem_cons_zero, List.setIfInBounds_toArray, List.set_cons_zero, List.set_cons_succ]
                refine wpAnyH_take (i := 6) (v := .slice po (restC ac bc).length co) rfl (by kernel_rfl) (by kernel_rfl) (by kernel_rfl) (fun _ _ _ h => h) (Or.inl ⟨by rfl, ?_⟩) hHeld ?_
                · intro w' hSw; go_simp
                try simp only [Act.put, List.getElem_toArray, List.getElem_cons_succ, List.getElem_cons_zero, List.setIfInBounds_toArray, List.set_cons_zero, List.set_cons_succ]
                refine wpAnyH_take (i := 7) (v := .pointer (some ⟨w.heap.size + 1, 0, none⟩)) rfl (by kernel_rfl) (by kernel_rfl) (by kernel_rfl) (fun _ _ _ h => h) (Or.inl ⟨by rfl, ?_⟩) hHeld ?_
                · intro w' hSw; go_simp
                try simp only [Act.put, List.getElem_toArray, List.getElem_cons_succ, List.getElem_cons_zero, List.setIfInBounds_toArray, List.set_cons_zero, List.set_cons_succ]
                refine wpAnyH_take (i := 8) (v := .slice pb bc.length cb) rfl (by kernel_rfl) (by kernel_rfl) (by kernel_rfl) (fun _ _ _ h => h) (Or.inl ⟨by rfl, ?_⟩) hHeld ?_
                · intro w' hSw; obtain ⟨z0, z1⟩ := (He2.out.below (HSB.out w' hSw) (by omega)).cells.c2; simp only [Nat.zero_add] at z1; go_simp
                try simp only [Act.put, List.getElem_toArray, List.getElem_cons_succ, List.getElem_cons_zero, List.setIfInBounds_toArray, List.set_cons_zero, List.set_cons_succ]
                refine wpAnyH_ready (rs := [9]) (by kernel_rfl) (by simp) ?_
                refine allCall (f := 79) (args := #[.slice p2 xb.length q2, .slice po (restC ac bc).length co, .slice pb bc.length cb]) rfl (by kernel_rfl) (by kernel_rfl) ?_ AllReadyH.nil
                refine refPick_any lrb hrb w8.heap.size wo.heap.size lcb hcb xb (restC ac bc) bc _ _ _ wy (Sl.below R2.out Row1.loc HB9d.out (by omega)) (by omega) (Sl.below Hs9b.out Strs.loc HB9d.out (by omega)) (by omega) (Sl.below Hb.out Strs.loc (HW9.out.trans (HB9d.out.mono (by omega))) hhb) (by omega) (within_rest ac bc) Hyl.out (by omega) _ (fun wz1 vq hBz hoq => ?_)
                obtain ⟨py, hpy⟩ : ∃ py, pickL xb (placesL (restC ac bc) bc) = py := ⟨_, rfl⟩
                have hpyl : py.length ≤ 32 := by rw [← hpy, pick_len]; omega
                rw [hpy] at hoq Hsk2
                have hzz1 := hBz.size
                obtain ⟨vz, wz, hrz, hoz, haz⟩ := appVL (Own.kept Hoxd.out hBz) (OwnV.sl hoq) (by omega) (by omega)
                have hOz : Only (fun z => (Value.slice px xa.length qx).ownBlock = some z) wy wz := (Below.only hBz).trans ⟨haz.grown.os, haz.grown.tape, haz.grown.output, haz.grown.size, fun q hq hA => haz.grown.block q hq (fun e => hA e.symm)⟩
                have HOz := Lib.hid hOz
                have Hoz := Lib.hid hoz
                have Hrz := Lib.hid hrz
                obtain ⟨pz, qz, rfl⟩ := Own.slice hoz
                obtain ⟨pq, qq, rfl⟩ := Own.slice hoq
                have HBqz := Lib.hid (HBqd.out.trans (hOz.below (by omega) (fun z hz => (Own.lt Hoxd.out z hz).1)))
                refine ⟨_, rfl, Below.only hBz, ?_⟩
                clear hHeld hBz hoq hoz haz hrz hOz
                try simp only [Act.put, List.getElem_toArray, List.getElem_cons_succ, List.getElem_cons_zero, List.setIfInBounds_toArray, List.set_cons_zero, List.set_cons_succ]
                refine wpAnyH_ready (rs := [10]) (by kernel_rfl) (by simp) ?_
                refine allVal rfl (by kernel_rfl) (execApp Hrz.out rfl (by kernel_rfl) (by kernel_rfl)) HOz.out ?_ AllReadyH.nil
                have hHeld := HOz.out
                try simp only [Act.put, List.getElem_toArray, List.getElem_cons_succ, List.getElem_cons_zero, List.setIfInBounds_toArray, List.set_cons_zero, List.set_cons_succ]
                refine wpAnyH_take (i := 11) (v := .slice pz (xa ++ py).length qz) rfl (by kernel_rfl) (by kernel_rfl) (by kernel_rfl) (fun _ _ _ h => h) (Or.inl ⟨by rfl, ?_⟩) hHeld ?_
                · intro w' hSw; go_simp
                try simp only [Act.put, List.getElem_toArray, List.getElem_cons_succ, List.getElem_cons_zero, List.setIfInBounds_toArray, List.set_cons_zero, List.set_cons_succ]
                refine wpAnyH_done (by kernel_rfl) ?_ _
                clear hHeld
                have Hoz2 := Lib.hid Hoz.out
                have hBkz : Below wk.heap.size wk wz := HBq.out.trans (HBqz.out.mono (by omega))
                have Hokz := Lib.hid (Hok.out.kept hBkz)
                have hzz := hBkz.size
                obtain ⟨v3, w3, hr3, ho3, ha3⟩ := LR.snoc Hokz.out (Nat.zero_le wq.heap.size) pz qz (xa ++ py) (OwnV.sl Hoz.out) (Nat.le_refl _) (fun q e => .inl (by have := (Hok.out.lt q e).2; omega)) rfl (by omega) (by omega)
                have HO3 := Lib.hid ho3
                have HB3 := Lib.hid ((HBk.out.trans (hBkz.mono (by omega))).trans (ha3.below (B := w9.heap.size) (by omega) (fun q e => (Hok.out.lt q e).1)))
                rw [List.length_append] at hr3
                have Hr3 := Lib.hid hr3
                clear ho3 ha3 hr3 hBkz
                go_wp2_with (at_builtin; refine AtApp.of ?_)
                refine AtApp.go Hr3.out rfl rfl rfl rfl ?_
                go_wp2_with fail
                go_roundw
                case rel => exact ⟨k + 1, by omega, by go_num, by rw [Hsk2.out]; exact HO3.out, HB3.out⟩
                case measure => simp [intOf]; omega
            · obtain rfl : k = lb.length := by omega
              have llk : ¬ ((lb.length : Nat) : Int) < (lb.length : Int) := by omega
              have hO := Hok.out
              rw [List.take_length, ← Hst.out] at hO
              have HO := Lib.hid hO
              clear hO Hok
              go_wp2_with fail
              go_roundw
              case rel => exact ⟨i + 1, by omega, by go_num, HO.out, HBk.out⟩
              case measure => simp [intOf]; omega
        · obtain rfl : i = la.length := by omega
          have llt : ¬ ((la.length : Nat) : Int) < (la.length : Int) := by omega
          have hO := Hoi.out
          rw [List.take_length] at hO hpi
          have HO := Lib.hid hO
          clear hO
          have hll2 : (joinL ac la bc lb).length ≤ 1000000000000 := Nat.le_trans (joinL_len ac la bc lb) hcapJ
          have HBm := Lib.hid (HB69.out.trans (HBi.out.mono (by omega)))
          have HBwm := Lib.hid (HW9.out.trans (HBi.out.mono (by omega)))
          subst hpi
          go_wp2_with fail
          obtain ⟨wm, ewm⟩ : ∃ x, x = wi := ⟨_, rfl⟩
          subst ewm
          refine refMadeP_any 0 wm.heap.size w6.heap.size w9.heap.size (joinCols ac bc) _ _ (joinL ac la bc lb) _ wm (Sl.below Hc9.out Strs.loc HBi.out (Nat.le_refl _)) (by omega) (HO.out.rws (Nat.zero_le _)) (Nat.le_refl _) hll2 (fun x hx => by
            obtain ⟨a, ha, hx⟩ := List.mem_flatMap.1 hx
            obtain ⟨y, hy, rfl⟩ := List.mem_map.1 hx
            rw [List.length_append, pick_len, may_len Hm.out a ha]; omega) (fun x hx => by
            obtain ⟨a, ha, hx⟩ := List.mem_flatMap.1 hx
            obtain ⟨y, hy, rfl⟩ := List.mem_map.1 hx
            intro z hz
            rcases List.mem_append.1 hz with hz | hz
            · exact Hras.out a ha z hz
            · exact pick_str (Hrbs.out y (List.mem_filter.1 hy).1) z hz) _ (fun w7 cv7 lv7 hB7 hT7 hO7 => ?_)
          generalize hE : madeErr (joinCols ac bc) (joinL ac la bc lb) = err at *
          generalize okL err (joinCols ac bc) = oc at *
          generalize okL err (relCanon (joinL ac la bc lb)) = ol at *
          obtain ⟨p7, q7, rfl, -, -, -, -⟩ := hT7.form
          obtain ⟨p8, q8, rfl, -, -, -, -⟩ := hO7.form
          have hzm := HBm.out.size
          have hB67 : Below w6.heap.size w6 w7 := HBm.out.trans (hB7.mono hzm)
          have hb7 := Hd3.out.below hB67 hld
          obtain ⟨e0, e1⟩ := hb7.cells.c2
          have f0 := hb7.free 0
          have f1 := hb7.free 1
          simp only [Nat.zero_add] at e1
          obtain ⟨t1, t2, t3⟩ := refTail (pc := p7) (pr := p8) (nc := oc.length) (nr := ol.length) (qc := q7) (qr := q8) hb7
          have hsz7 : w6.heap.size ≤ w7.heap.size := hB67.size
          have hwm : wm.heap.size ≤ w7.heap.size := hB7.size
          have hr := HR.out _ _ _ (((HW6.out.trans (hB67.mono (by omega))).setCell (p := ⟨w.heap.size + 1 + 1, 0, none⟩) (by show w.heap.size ≤ w.heap.size + 1 + 1; omega) (.slice p7 oc.length q7)).setCell (p := ⟨w.heap.size + 1 + 1, 1, none⟩) (by show w.heap.size ≤ w.heap.size + 1 + 1; omega) (.slice p8 ol.length q8)) (Sl.mono (Sl.agree hT7 Strs.loc (t2 _ _ (.inl (by omega)))) Strs.loc (by omega) (by have h1 : w9.heap.size ≤ wm.heap.size := hzi; have h2 : wm.heap.size ≤ w7.heap.size := hwm; have h3 := t3; omega)) (Sl.mono (Sl.agree hO7 rowE_loc (t2 _ _ (.inl (by omega)))) rowE_loc (by omega) (Nat.le_of_eq t3.symm))
          have Hr := Lib.hid hr
          have Ht := Lib.hid t1
          clear hr t1 t2 t3 hb7 hB67 hB7 hT7 hO7
          go_wp2_with fail
          exact ret_cell_tmp rfl rfl Ht.out rfl rfl Hr.out

end Go.Proofs.Ytpncblagjkbemaa
end

/- Slices whose memory may be written, whatever it holds. -/
section
set_option linter.unusedVariables false
set_option linter.unusedSimpArgs false
namespace Go.Proofs.Ytpncblagjkbemaa
open Go.RowKit
set_option linter.unusedVariables false
set_option linter.unusedSimpArgs false

/-- v has n elements in a block of its own among lo .. hi that may be written; what it holds is not said. -/
def Shp (e : TypeId) (size lo hi : Nat) (w : World) (v : Value) (n : Nat) : Prop :=
  (n = 0 ∧ v = .slice none 0 0) ∨ ∃ g cap cur, v = .slice (some ⟨g, 0, none⟩) n cap ∧ lo ≤ g ∧ g < hi ∧ n ≤ cap ∧ cap ≤ 9223372036854775807 ∧ w.heap[g]? = some (.cells cur e) ∧ n * size ≤ cur.size
theorem heap_setCell_shape {w : World} {g : Nat} {cur : Array Value} {e : TypeId} (h : w.heap[g]? = some (.cells cur e)) (b i : Nat) (u : Value) : ∃ cur', (w.setCell ⟨b, i, none⟩ u).heap[g]? = some (.cells cur' e) ∧ cur'.size = cur.size := by
  by_cases hg : g = b
  · subst hg
    have hb : Blk w g cur.toList e := by unfold Blk; simpa using h
    have hs := hb.set i u
    unfold Blk at hs
    exact ⟨_, hs, by simp⟩
  · exact ⟨cur, (Below.heap_setCell _ _ _ _ hg).trans h, rfl⟩
theorem Shp.setCell {e : TypeId} {size lo hi : Nat} {w : World} {v : Value} {n : Nat} (h : Shp e size lo hi w v n) (b i : Nat) (u : Value) : Shp e size lo hi (w.setCell ⟨b, i, none⟩ u) v n := by
  rcases h with h | ⟨g, cap, cur, rfl, h1, h2, h3, h4, h5, h6⟩
  · exact .inl h
  · obtain ⟨cur', h5', h6'⟩ := heap_setCell_shape h5 b i u
    exact .inr ⟨g, cap, cur', rfl, h1, h2, h3, h4, h5', by omega⟩
theorem Shp.below {e : TypeId} {size lo hi B : Nat} {w w' : World} {v : Value} {n : Nat} (h : Shp e size lo hi w v n) (hB : Below B w w') (hb : hi ≤ B) : Shp e size lo hi w' v n := by
  rcases h with h | ⟨g, cap, cur, rfl, h1, h2, h3, h4, h5, h6⟩
  · exact .inl h
  · exact .inr ⟨g, cap, cur, rfl, h1, h2, h3, h4, (hB.block g (by omega)).trans h5, h6⟩
/-- A cell of it is there, and may be written. -/
theorem Shp.cell {e : TypeId} {size lo hi : Nat} {w : World} {v : Value} {n : Nat} (h : Shp e size lo hi w v n) {j : Nat} (hj : j < n) : ∃ g cap, v = .slice (some ⟨g, 0, none⟩) n cap ∧ lo ≤ g ∧ g < hi ∧ n ≤ cap ∧ cap ≤ 9223372036854775807 ∧ (∀ i, i < size → ∃ u, w.cell? ⟨g, j * size + i, none⟩ = some u) ∧ ∀ i, w.frozen? ⟨g, i, none⟩ = false := by
  rcases h with ⟨h, -⟩ | ⟨g, cap, cur, rfl, h1, h2, h3, h4, h5, h6⟩
  · omega
  · have hb : Blk w g cur.toList e := by unfold Blk; simpa using h5
    refine ⟨g, cap, rfl, h1, h2, h3, h4, fun i hi => ?_, fun i => hb.free i⟩
    have hlt : j * size + i < cur.toList.length := by
      have := Nat.mul_le_mul_right size (Nat.succ_le_of_lt hj)
      rw [Nat.succ_mul] at this
      rw [Array.length_toList]
      omega
    refine ⟨cur.toList[j * size + i], ?_⟩
    have := hb.cells (j * size + i) cur.toList[j * size + i] (List.getElem?_eq_getElem hlt)
    simpa using this
theorem Shp.ofOwn {α : Type} {enc : α → List Value} {e : TypeId} {size lo : Nat} {w : World} {v : Value} {xs : List α} (h : Own enc e size lo w v xs) : Shp e size lo w.heap.size w v xs.length := by
  have hl := Own.lt h
  rcases h.2 with ⟨ev, hn⟩ | ⟨g, cap, cur, ev, hb, hg, hnc, hcm, hcs, htake⟩
  · exact .inl ⟨hn, ev⟩
  · subst ev
    refine .inr ⟨g, cap, cur, rfl, hb, (hl g rfl).2, hnc, hcm, hg, ?_⟩
    have := Nat.mul_le_mul_right size hnc
    omega
end Go.Proofs.Ytpncblagjkbemaa
end

/- What RowsPicks asks of each row. -/
section
set_option linter.unusedVariables false
set_option linter.unusedSimpArgs false
namespace Go.Proofs.Ytpncblagjkbemaa
open Go.RowKit
set_option linter.unusedVariables false
set_option linter.unusedSimpArgs false

def keep3 (k : Nat) : Bool := (k + 1) % 3 != 0
/-- The state of what is asked: fine, and how often it was asked. -/
structure AskJ (bf ba br lo hi : Nat) (pc av : Option Addr) (nc cc cv : Nat) (l : List (List V)) (k : Nat) (w : World) : Prop where
  fine : Blk w bf [.bool true] 4
  asked : Blk w ba [.int .i64 k] 3
  box : Blk w br [.slice pc nc cc, .slice av l.length cv] 34
  rows : Rws lo hi w (.slice av l.length cv) l
  le : hi ≤ w.heap.size
theorem AskJ.below {bf ba br lo hi : Nat} {pc av : Option Addr} {nc cc cv : Nat} {l : List (List V)} {k B : Nat} {w w' : World} (h : AskJ bf ba br lo hi pc av nc cc cv l k w) (hB : Below B w w') (h1 : bf < B) (h2 : ba < B) (h3 : br < B) (h4 : hi ≤ B) : AskJ bf ba br lo hi pc av nc cc cv l k w' :=
  ⟨h.fine.below hB h1, h.asked.below hB h2, h.box.below hB h3, Sl.below h.rows rowE_loc hB h4, Nat.le_trans h.le hB.size⟩
theorem AskJ.set {bf ba br lo hi : Nat} {pc av : Option Addr} {nc cc cv : Nat} {l : List (List V)} {k : Nat} {w : World} (h : AskJ bf ba br lo hi pc av nc cc cv l k w) {g i : Nat} (u : Value) (h1 : bf < g) (h2 : ba < g) (h3 : br < g) (h4 : hi ≤ g) : AskJ bf ba br lo hi pc av nc cc cv l k (w.setCell ⟨g, i, none⟩ u) :=
  ⟨h.fine.other (by show bf ≠ g; omega) u, h.asked.other (by show ba ≠ g; omega) u, h.box.other (by show br ≠ g; omega) u, Sl.agree h.rows rowE_loc (Agree.setCell w (p := ⟨g, i, none⟩) (.inr h4) u), by rw [show (w.setCell ⟨g, i, none⟩ u).heap.size = w.heap.size by simp]; exact h.le⟩
theorem AskJ.next {bf ba br lo hi : Nat} {pc av : Option Addr} {nc cc cv : Nat} {l : List (List V)} {k : Nat} {w : World} (h : AskJ bf ba br lo hi pc av nc cc cv l k w) (hfa : bf ≠ ba) (hfr : bf ≠ br) (har : ba ≠ br) (hfl : bf < lo ∨ hi ≤ bf) (hal : ba < lo ∨ hi ≤ ba) :
    AskJ bf ba br lo hi pc av nc cc cv l (k + 1) ((w.setCell ⟨bf, 0, none⟩ (.bool true)).setCell ⟨ba, 0, none⟩ (.int .i64 ((k : Int) + 1))) :=
  ⟨(h.fine.set 0 (.bool true)).other (p := ⟨ba, 0, none⟩) hfa _, (h.asked.other (p := ⟨bf, 0, none⟩) (fun e => hfa e.symm) (.bool true)).set 0 (.int .i64 ((k : Int) + 1)), (h.box.other (p := ⟨bf, 0, none⟩) (fun e => hfr e.symm) _).other (p := ⟨ba, 0, none⟩) (fun e => har e.symm) _,
    Sl.agree h.rows rowE_loc ((Agree.setCell w (p := ⟨bf, 0, none⟩) hfl _).trans (Agree.setCell _ (p := ⟨ba, 0, none⟩) hal _)), by simp; exact h.le⟩
set_option maxRecDepth 100000 in
set_option maxHeartbeats 4000000 in
theorem Picks1_any (bf ba br lo hi zlo k : Nat) (pc av : Option Addr) (nc cc cv : Nat) (l : List (List V)) (hk : k < l.length) (hll : l.length ≤ 1000000) (zv : Value) (w : World) (hJ : AskJ bf ba br lo hi pc av nc cc cv l k w) (hz : OwnV zlo w zv l[k]) (h1 : bf < zlo) (h2 : ba < zlo) (h3 : br < zlo) (h4 : hi ≤ zlo) (hfa : bf ≠ ba) (hfr : bf ≠ br) (har : ba ≠ br) (hfl : bf < lo ∨ hi ≤ bf) (hal : ba < lo ∨ hi ≤ ba)
    (hrs : ∀ x ∈ l, ∀ a ∈ x, a.s.length ≤ 9223372036854775807) (R : Ending → World → Prop)
    (hR : ∀ w', AskJ bf ba br lo hi pc av nc cc cv l (k + 1) w' → Only (fun b => (b = bf ∨ b = ba) ∨ zv.ownBlock = some b) w w' → R (.returned (.bool (keep3 k))) w') :
    Calls Try.prog 36 #[zv, .pointer (some ⟨bf, 0, none⟩), .pointer (some ⟨ba, 0, none⟩), .pointer (some ⟨br, 0, none⟩)] w R := by
  have HR := Lib.hid hR
  have HJ := Lib.hid hJ
  have Hz := Lib.hid hz
  have hkk : (k : Int) < (l.length : Int) := by omega
  have kk0 : (0 : Int) ≤ (k : Int) := by omega
  obtain ⟨b4, o4, rfl, hb4, hrow4⟩ := Rws.at hJ.rows hJ.le (by omega)
  obtain ⟨p2, c2, g2, r2⟩ := hrow4 k hk
  have g0 := g2 w (Below.refl _ _)
  have R2 := Lib.hid r2
  have M2 := Lib.hid (hrs _ (List.getElem_mem hk))
  have hle := hJ.le
  obtain ⟨pz, qz, rfl⟩ := Own.slice hz
  have d0 := hJ.fine.cells.c1
  have d1 := hJ.asked.cells.c1
  obtain ⟨e0, e1⟩ := hJ.box.cells.c2
  simp only [Nat.zero_add] at e1
  have hbfl := hJ.fine.lt
  have hbal := hJ.asked.lt
  have hbrl := hJ.box.lt
  clear hR hJ hz hrow4 g2 r2 hrs
  have hxl := R2.out.len
  generalize l[k] = x at *
  go_enter Try.func36, Try.ntmps36
  go_wp2_with fail
  refine refRowsCompare_any zlo w.heap.size lo hi x x _ _ w (OwnV.sl Hz.out) R2.out (Nat.le_refl _) (by omega) M2.out M2.out _ (fun w1 hB1 => ?_)
  rw [cmpR_self]
  have HB1 := Lib.hid hB1
  have HJ1 := Lib.hid (HJ.out.below hB1 hbfl hbal hbrl hle)
  have Hz1 := Lib.hid (Own.kept Hz.out hB1)
  have f0 := HJ1.out.fine.free 0
  have f1 := HJ1.out.asked.free 0
  have d0 := HJ1.out.fine.cells.c1
  have d1 := HJ1.out.asked.cells.c1
  clear hB1
  go_upto_region 4 with fail
  have HJN := Lib.hid (HJ1.out.next hfa hfr har hfl hal)
  have HSN := Lib.hid (((Shp.ofOwn Hz1.out).setCell bf 0 (.bool true)).setCell ba 0 (.int .i64 ((k : Int) + 1)))
  have HON : Hid (Only (fun b => (b = bf ∨ b = ba) ∨ (Value.slice pz x.length qz).ownBlock = some b) w ((w1.setCell ⟨bf, 0, none⟩ (.bool true)).setCell ⟨ba, 0, none⟩ (.int .i64 ((k : Int) + 1)))) :=
    Lib.hid (((Below.only HB1.out).trans (Only.setCell w1 (p := ⟨bf, 0, none⟩) (.inl (.inl rfl)) _)).trans (Only.setCell _ (p := ⟨ba, 0, none⟩) (.inl (.inr rfl)) _))
  have hks : (((k : Int) + 1) % 3 != 0) = keep3 k := by
    unfold keep3
    rw [Bool.eq_iff_iff]
    simp only [bne_iff_ne, ne_eq]
    omega
  clear d0 d1 f0 f1 HJ1 Hz1 HB1 HJ Hz
  generalize (w1.setCell ⟨bf, 0, none⟩ (.bool true)).setCell ⟨ba, 0, none⟩ (.int .i64 ((k : Int) + 1)) = w3 at *
  generalize keep3 k = kp at *
  go_wp2_with fail
  go_loopw [33] (fun t33 wr => ∃ j : Nat, j ≤ x.length ∧ t33 = .int .i64 j ∧ AskJ bf ba br lo hi pc (some ⟨b4, o4, none⟩) nc cc cv l (k + 1) wr ∧ Only (fun b => (b = bf ∨ b = ba) ∨ (Value.slice pz x.length qz).ownBlock = some b) w wr ∧ Shp 24 3 zlo w1.heap.size wr (.slice pz x.length qz) x.length) (fun t33 _ => x.length - (intOf t33).toNat)
  case atStart => exact ⟨0, Nat.zero_le _, rfl, HJN.out, HON.out, HSN.out⟩
  case round =>
    obtain ⟨j, hj, rfl, hJ', hO', hS'⟩ := hrel
    obtain ⟨wo, ewo⟩ : ∃ x, x = wr := ⟨_, rfl⟩
    subst ewo
    have HJ' := Lib.hid hJ'
    have HO' := Lib.hid hO'
    have HS' := Lib.hid hS'
    have jj0 : (0 : Int) ≤ (j : Int) := by omega
    clear hJ' hO' hS'
    by_cases hlt : j < x.length
    · have jjl : (j : Int) < (x.length : Int) := by omega
      obtain ⟨g, cap, ev, q1, q2, q3, q4, q5, q6⟩ := HS'.out.cell hlt
      injection ev with ev1 ev2 ev3
      subst ev1 ev3
      obtain ⟨u0, hu0⟩ := q5 0 (by omega)
      obtain ⟨u1, hu1⟩ := q5 1 (by omega)
      obtain ⟨u2, hu2⟩ := q5 2 (by omega)
      rw [Nat.add_zero] at hu0
      have hf0 := q6 (j * 3)
      have hf1 := q6 (j * 3 + 1)
      have hf2 := q6 (j * 3 + 2)
      have HJn := Lib.hid (((HJ'.out.set (g := g) (i := j * 3) (.int .i64 98) (by omega) (by omega) (by omega) (by omega)).set (g := g) (i := j * 3 + 1) (.int .i64 0) (by omega) (by omega) (by omega) (by omega)).set (g := g) (i := j * 3 + 2) (.string ⟨#[]⟩) (by omega) (by omega) (by omega) (by omega))
      have HSn := Lib.hid (((HS'.out.setCell g (j * 3) (.int .i64 98)).setCell g (j * 3 + 1) (.int .i64 0)).setCell g (j * 3 + 2) (.string ⟨#[]⟩))
      have HOn := Lib.hid (((HO'.out.trans (Only.setCell _ (p := ⟨g, j * 3, none⟩) (.inr rfl) (.int .i64 98))).trans (Only.setCell _ (p := ⟨g, j * 3 + 1, none⟩) (.inr rfl) (.int .i64 0))).trans (Only.setCell _ (p := ⟨g, j * 3 + 2, none⟩) (.inr rfl) (.string ⟨#[]⟩)))
      clear q5 q6
      go_wp2_with fail
      go_roundw
      case rel => exact ⟨j + 1, by omega, by go_num, HJn.out, HOn.out, HSn.out⟩
      case measure => simp [intOf]; omega
    · obtain rfl : j = x.length := by omega
      have nln : ¬ ((x.length : Nat) : Int) < (x.length : Int) := by omega
      have hr := HR.out wo HJ'.out HO'.out
      go_wp2_with fail
      first | exact hr | exact fin hr rfl
end Go.Proofs.Ytpncblagjkbemaa
end

/- The law's told on answers that are alike. (Printed by rowr.py.) -/
section
set_option linter.unusedVariables false
set_option linter.unusedSimpArgs false
namespace Go.Proofs.Ytpncblagjkbemaa
open Go.RowKit
set_option linter.unusedVariables false
set_option linter.unusedSimpArgs false

/-- The blocks that are written over. -/
def TB (ca : Value) (hs : List Value) (b : Nat) : Prop := ca.ownBlock = some b ∨ ∃ h ∈ hs, h.ownBlock = some b
/-- What the walk over a's rows and columns keeps. -/
structure ToldIn (lo hi : Nat) (w wr : World) (hs : List Value) (ns : List Nat) (la ca : Value) (nc : Nat) : Prop where
  own : OwnH lo wr la hs
  len : hs.length = ns.length
  row : ∀ i (h : i < hs.length) (h2 : i < ns.length), Shp 24 3 lo hi wr hs[i] ns[i]
  col : Shp 9 1 lo hi wr ca nc
  box : Blk wr hi [ca, la] 34
  bel : Below lo w wr
  only : Only (TB ca hs) w wr
theorem ToldIn.set {lo hi : Nat} {w wr : World} {hs : List Value} {ns : List Nat} {la ca : Value} {nc : Nat} (h : ToldIn lo hi w wr hs ns la ca nc) {b i : Nat} (u : Value) (h1 : lo ≤ b) (h2 : b < hi) (h3 : la.ownBlock ≠ some b) (h4 : TB ca hs b) : ToldIn lo hi w (wr.setCell ⟨b, i, none⟩ u) hs ns la ca nc :=
  ⟨Own.setOther h.own h3 u, h.len, fun k hk h2 => (h.row k hk h2).setCell b i u, h.col.setCell b i u, h.box.other (by show hi ≠ b; omega) u, h.bel.setCell (p := ⟨b, i, none⟩) h1 u, h.only.trans (Only.setCell wr (p := ⟨b, i, none⟩) h4 u)⟩
set_option maxRecDepth 100000 in
set_option maxHeartbeats 2000000 in
theorem toldO_any (lo lo2 hi2 lc2 hc2 : Nat) (cols : List S) (l : List (List V)) (hs : List Value) (ca cb la lb : Value) (e : Int) (w : World) (hlo : lo ≤ w.heap.size) (hca : OwnT lo w ca cols) (hcb : Strs lc2 hc2 w cb cols) (hla : OwnR lo w la hs l) (hlb : Rws lo2 hi2 w lb l) (h2 : hc2 ≤ w.heap.size) (h4 : hi2 ≤ w.heap.size) (hrs : ∀ x ∈ l, ∀ a ∈ x, a.s.length ≤ 9223372036854775807) (R : Ending → World → Prop)
    (hR : ∀ w', Below lo w w' → Only (TB ca hs) w w' → R (.returned (.bool true)) w') : Calls Try.prog 28 #[.agg #[ca, la], .int .i64 e, .agg #[cb, lb], .int .i64 e] w R := by
  have HR := Lib.hid hR
  have OCa := Lib.hid hca
  have OLa := Lib.hid hla
  have HCa := Lib.hid (OwnT.sl hca)
  have HCb := Lib.hid hcb
  have HLa := Lib.hid (OwnR.rws hla)
  have HLb := Lib.hid hlb
  have Hrs := Lib.hid hrs
  obtain ⟨aca, cca, rfl⟩ := Own.slice hca
  obtain ⟨acb, ccb, rfl, -, -, -, -⟩ := hcb.form
  obtain ⟨ala, cla, rfl, -, -, -, -⟩ := (OwnR.rws hla).form
  obtain ⟨alb, clb, rfl, -, -, -, -⟩ := hlb.form
  clear hR hca hcb hla hlb hrs
  go_enter Try.func28, Try.ntmps28
  go_upto_region 1 with fail
  obtain ⟨w0, hw0⟩ : ∃ w0, w0 = (w.alloc (.cells #[.slice aca cols.length cca, .slice ala l.length cla] 34)).alloc (.cells #[.slice acb cols.length ccb, .slice alb l.length clb] 53) := ⟨_, rfl⟩
  have s1 : (w.alloc (.cells #[.slice aca cols.length cca, .slice ala l.length cla] 34)).heap.size = w.heap.size + 1 := Array.size_push _
  have hB0 : Below w.heap.size w w0 := by
    rw [hw0]
    exact (alloc_below w _).alloc (by rw [s1]; omega) _
  have hz0 : w.heap.size + 1 < w0.heap.size := by
    rw [hw0]
    show _ < (Array.push _ _).size
    rw [Array.size_push, s1]; omega
  have hb1 : Blk w0 w.heap.size [.slice aca cols.length cca, .slice ala l.length cla] 34 := by
    rw [hw0]
    exact (Blk.new w [.slice aca cols.length cca, .slice ala l.length cla] _ rfl).alloc _
  have hb2 : Blk w0 (w.heap.size + 1) [.slice acb cols.length ccb, .slice alb l.length clb] 53 := by
    rw [hw0]
    exact Blk.new _ [.slice acb cols.length ccb, .slice alb l.length clb] _ s1.symm
  rw [← hw0]
  clear hw0 s1
  have HB0 := Lib.hid hB0
  have HA := Lib.hid hb1
  have HBb := Lib.hid hb2
  have hb1l : w.heap.size < w0.heap.size := by omega
  clear hB0 hb1 hb2
  have hS0 : Below w0.heap.size w0 w0.drew := (Below.refl _ _).drew
  refine wp_region_held_drew (S := fun w' => Below w0.heap.size w0 w') (by kernel_rfl) hS0 (fun hHeld => ?_)
  refine wpAnyH_take (i := 0) (v := .int .i64 e) rfl (by kernel_rfl) (by kernel_rfl) (by kernel_rfl) (fun _ _ _ h => h) (Or.inl ⟨by rfl, ?_⟩) hHeld ?_
  · intro w' hSw; go_simp
  try simp only [Act.put, List.getElem_toArray, List.getElem_cons_succ, List.getElem_cons_zero, List.setIfInBounds_toArray, List.set_cons_zero, List.set_cons_succ]
  refine wpAnyH_take (i := 1) (v := .int .i64 e) rfl (by kernel_rfl) (by kernel_rfl) (by kernel_rfl) (fun _ _ _ h => h) (Or.inl ⟨by rfl, ?_⟩) hHeld ?_
  · intro w' hSw; go_simp
  try simp only [Act.put, List.getElem_toArray, List.getElem_cons_succ, List.getElem_cons_zero, List.setIfInBounds_toArray, List.set_cons_zero, List.set_cons_succ]
  refine wpAnyH_take (i := 2) (v := .bool true) rfl (by kernel_rfl) (by kernel_rfl) (by kernel_rfl) (fun _ _ _ h => h) (Or.inl ⟨by rfl, ?_⟩) hHeld ?_
  · intro w' hSw; go_simp
  try simp only [Act.put, List.getElem_toArray, List.getElem_cons_succ, List.getElem_cons_zero, List.setIfInBounds_toArray, List.set_cons_zero, List.set_cons_succ]
  refine wpAnyH_take (i := 3) (v := .bool true) rfl (by kernel_rfl) (by kernel_rfl) (by kernel_rfl) (fun _ _ _ h => h) (Or.inl ⟨by rfl, ?_⟩) hHeld ?_
  · intro w' hSw; go_simp
  try simp only [Act.put, List.getElem_toArray, List.getElem_cons_succ, List.getElem_cons_zero, List.setIfInBounds_toArray, List.set_cons_zero, List.set_cons_succ]
  refine wpAnyH_take (i := 4) (v := .agg #[.slice aca cols.length cca, .slice ala l.length cla]) rfl (by kernel_rfl) (by kernel_rfl) (by kernel_rfl) (fun _ _ _ h => h) (Or.inl ⟨by rfl, ?_⟩) hHeld ?_
  · intro w' hSw; have kx := (HA.out.below hSw hb1l).cells.runVar (P := Try.prog) (t := 34) (fun _ => by kernel_rfl) (fun _ => by kernel_rfl); obtain ⟨z0, z1⟩ := (HA.out.below hSw hb1l).cells.c2; simp only [Nat.zero_add] at z1; go_simp
  try simp only [Act.put, List.getElem_toArray, List.getElem_cons_succ, List.getElem_cons_zero, List.setIfInBounds_toArray, List.set_cons_zero, List.set_cons_succ]
  refine wpAnyH_take (i := 6) (v := .agg #[.slice acb cols.length ccb, .slice alb l.length clb]) rfl (by kernel_rfl) (by kernel_rfl) (by kernel_rfl) (fun _ _ _ h => h) (Or.inl ⟨by rfl, ?_⟩) hHeld ?_
  · intro w' hSw; have kx := (HBb.out.below hSw hz0).cells.runVar (P := Try.prog) (t := 53) (fun _ => by kernel_rfl) (fun _ => by kernel_rfl); obtain ⟨z0, z1⟩ := (HBb.out.below hSw hz0).cells.c2; simp only [Nat.zero_add] at z1; go_simp
  try simp only [Act.put, List.getElem_toArray, List.getElem_cons_succ, List.getElem_cons_zero, List.setIfInBounds_toArray, List.set_cons_zero, List.set_cons_succ]
  refine wpAnyH_ready (rs := [5]) (by kernel_rfl) (by simp) ?_
  refine allCall (f := 32) (args := #[.agg #[.slice aca cols.length cca, .slice ala l.length cla]]) rfl (by kernel_rfl) (by kernel_rfl) ?_ AllReadyH.nil
  refine ref_any _ _ _ _ _ _ w0.drew _ (fun wq1 hB => ?_)
  refine ⟨_, rfl, hHeld.trans (hB.mono hHeld.size), ?_⟩
  have hHeld2 := hHeld.trans (hB.mono hHeld.size)
  clear hHeld
  have hHeld := hHeld2
  clear hHeld2
  clear hB
  try simp only [Act.put, List.getElem_toArray, List.getElem_cons_succ, List.getElem_cons_zero, List.setIfInBounds_toArray, List.set_cons_zero, List.set_cons_succ]
  refine wpAnyH_ready (rs := [7]) (by kernel_rfl) (by simp) ?_
  refine allCall (f := 56) (args := #[.agg #[.slice aca cols.length cca, .slice ala l.length cla], .agg #[.slice acb cols.length ccb, .slice alb l.length clb]]) rfl (by kernel_rfl) (by kernel_rfl) ?_ AllReadyH.nil
  refine Same_any lo w.heap.size lo2 hi2 lo w.heap.size lc2 hc2 cols l _ _ _ _ wq1 (Sl.below HCa.out Strs.loc (HB0.out.trans (hHeld.mono (by omega))) (Nat.le_refl _)) (Sl.below HCb.out Strs.loc (HB0.out.trans (hHeld.mono (by omega))) h2) (Sl.below HLa.out rowE_loc (HB0.out.trans (hHeld.mono (by omega))) (Nat.le_refl _)) (Sl.below HLb.out rowE_loc (HB0.out.trans (hHeld.mono (by omega))) h4) (by have := hHeld.size; omega) (by have := hHeld.size; omega) (by have := hHeld.size; omega) (by have := hHeld.size; omega) Hrs.out _ (fun wq2 hB => ?_)
  refine ⟨_, rfl, hHeld.trans (hB.mono hHeld.size), ?_⟩
  have hHeld2 := hHeld.trans (hB.mono hHeld.size)
  clear hHeld
  have hHeld := hHeld2
  clear hHeld2
  clear hB
  try simp only [Act.put, List.getElem_toArray, List.getElem_cons_succ, List.getElem_cons_zero, List.setIfInBounds_toArray, List.set_cons_zero, List.set_cons_succ]
  refine wpAnyH_take (i := 8) (v := .bool true) rfl (by kernel_rfl) (by kernel_rfl) (by kernel_rfl) (fun _ _ _ h => h) (Or.inl ⟨by rfl, ?_⟩) hHeld ?_
  · intro w' hSw; go_simp
  try simp only [Act.put, List.getElem_toArray, List.getElem_cons_succ, List.getElem_cons_zero, List.setIfInBounds_toArray, List.set_cons_zero, List.set_cons_succ]
  refine wpAnyH_take (i := 9) (v := .bool true) rfl (by kernel_rfl) (by kernel_rfl) (by kernel_rfl) (fun _ _ _ h => h) (Or.inl ⟨by rfl, ?_⟩) hHeld ?_
  · intro w' hSw; go_simp
  try simp only [Act.put, List.getElem_toArray, List.getElem_cons_succ, List.getElem_cons_zero, List.setIfInBounds_toArray, List.set_cons_zero, List.set_cons_succ]
  have HH2 := Lib.hid hHeld
  refine wpAnyH_done (by kernel_rfl) ?_ _
  clear hHeld
  have hBq := HB0.out.trans (HH2.out.mono (by omega))
  have T0 : ToldIn lo w.heap.size w wq2 hs (l.map List.length) (.slice ala l.length cla) (.slice aca cols.length cca) cols.length :=
    ⟨Own.kept OLa.out.own hBq, by rw [List.length_map]; exact OLa.out.len, fun i h h2 => by
      rw [List.getElem_map]
      exact (Shp.ofOwn (OLa.out.row i h (by simpa using h2))).below hBq (Nat.le_refl _), (Shp.ofOwn OCa.out).below hBq (Nat.le_refl _), HA.out.below HH2.out hb1l, hBq.mono hlo, Below.only hBq⟩
  have HT0 := Lib.hid T0
  obtain ⟨d0, d1⟩ := T0.box.cells.c2
  simp only [Nat.zero_add] at d1
  have hml := HLa.out.len
  have hql := HCa.out.len
  clear hBq T0
  go_wp2_with fail
  go_loopw [25] (fun t25 wr => ∃ k : Nat, k ≤ l.length ∧ t25 = .int .i64 k ∧ ToldIn lo w.heap.size w wr hs (l.map List.length) (.slice ala l.length cla) (.slice aca cols.length cca) cols.length) (fun t25 _ => l.length - (intOf t25).toNat)
  case atStart => exact ⟨0, Nat.zero_le _, rfl, HT0.out⟩
  case round =>
    clear d0 d1
    obtain ⟨k, hk, rfl, hT⟩ := hrel
    obtain ⟨wo, ewo⟩ : ∃ x, x = wr := ⟨_, rfl⟩
    subst ewo
    have HT := Lib.hid hT
    have kk0 : (0 : Int) ≤ (k : Int) := by omega
    obtain ⟨d0, d1⟩ := hT.box.cells.c2
    simp only [Nat.zero_add] at d1
    clear hT
    by_cases hlt : k < l.length
    · have kkl : (k : Int) < (l.length : Int) := by omega
      have hkh : k < hs.length := by rw [OLa.out.len]; exact hlt
      obtain ⟨ao', cap', e', -, -, -, hc⟩ := (OwnH.sl HT.out.own).form
      injection e' with e1 e2 e3
      subst e1 e3
      obtain ⟨b, off, rfl, hb1, hb2, hcc⟩ := hc k hkh
      clear hcc hc e2
      obtain ⟨p, cp, ep⟩ := Own.slice (OLa.out.row k hkh hlt)
      have hnl := (OwnV.sl (OLa.out.row k hkh hlt)).len
      have Htb : Hid (∀ q, (Value.slice p l[k].length cp).ownBlock = some q → TB (.slice aca cols.length cca) hs q) := Lib.hid (fun q hq => .inr ⟨hs[k], List.getElem_mem hkh, by rw [ep]; exact hq⟩)
      have Hap : Hid (∀ q, (Value.slice p l[k].length cp).ownBlock = some q → (Value.slice (some ⟨b, off, none⟩) l.length cla).ownBlock ≠ some q) := Lib.hid (by rw [← ep]; exact OLa.out.apart k hkh)
      have Hhead : Hid (∀ wr', ToldIn lo w.heap.size w wr' hs (l.map List.length) (.slice (some ⟨b, off, none⟩) l.length cla) (.slice aca cols.length cca) cols.length → wr'.cell? ⟨b, off + k, none⟩ = some (.slice p l[k].length cp)) := Lib.hid (fun wr' h => by
        obtain ⟨ao', cap', e', -, -, -, hc⟩ := (OwnH.sl h.own).form
        injection e' with e1 e2 e3
        obtain ⟨b', off', e4, -, -, hcc⟩ := hc k hkh
        rw [e4] at e1
        injection e1 with e1
        injection e1 with e5 e6
        subst e5 e6
        obtain ⟨cs, _, hcs, rfl⟩ := hcc k hkh
        have g0 := hcs.c1
        rw [Nat.mul_one, ep] at g0
        exact g0)
      have Hrow : Hid (∀ wr', ToldIn lo w.heap.size w wr' hs (l.map List.length) (.slice (some ⟨b, off, none⟩) l.length cla) (.slice aca cols.length cca) cols.length → Shp 24 3 lo w.heap.size wr' (.slice p l[k].length cp) l[k].length) := Lib.hid (fun wr' h => by
        have := h.row k hkh (by rw [List.length_map]; exact hlt)
        rw [List.getElem_map, ep] at this
        exact this)
      have g0 := Hhead.out _ HT.out
      clear ep
      generalize l[k].length = n at *
      go_wp2_with fail
      go_loopw [34] (fun t34 wr => ∃ j : Nat, j ≤ n ∧ t34 = .int .i64 j ∧ ToldIn lo w.heap.size w wr hs (l.map List.length) (.slice (some ⟨b, off, none⟩) l.length cla) (.slice aca cols.length cca) cols.length) (fun t34 _ => n - (intOf t34).toNat)
      case atStart => exact ⟨0, Nat.zero_le _, rfl, HT.out⟩
      case round =>
        clear d0 d1 g0 HT
        obtain ⟨j, hj, rfl, hT⟩ := hrel
        obtain ⟨wi, ewi⟩ : ∃ x, x = wr := ⟨_, rfl⟩
        subst ewi
        have HT := Lib.hid hT
        have jj0 : (0 : Int) ≤ (j : Int) := by omega
        obtain ⟨d0, d1⟩ := hT.box.cells.c2
        simp only [Nat.zero_add] at d1
        have g0 := Hhead.out _ hT
        clear hT
        by_cases hjt : j < n
        · have jjl : (j : Int) < (n : Int) := by omega
          obtain ⟨g, cap, ev, q1, q2, q3, q4, q5, q6⟩ := (Hrow.out _ HT.out).cell hjt
          injection ev with ev1 ev2 ev3
          subst ev1 ev3
          obtain ⟨u0, hu0⟩ := q5 0 (by omega)
          obtain ⟨u1, hu1⟩ := q5 1 (by omega)
          obtain ⟨u2, hu2⟩ := q5 2 (by omega)
          rw [Nat.add_zero] at hu0
          have hf0 := q6 (j * 3)
          have hf1 := q6 (j * 3 + 1)
          have hf2 := q6 (j * 3 + 2)
          have HTn := Lib.hid (((HT.out.set (b := g) (i := j * 3) (.int .i64 99) q1 q2 (Hap.out g rfl) (Htb.out g rfl)).set (b := g) (i := j * 3 + 1) (.int .i64 0) q1 q2 (Hap.out g rfl) (Htb.out g rfl)).set (b := g) (i := j * 3 + 2) (.string ⟨#[]⟩) q1 q2 (Hap.out g rfl) (Htb.out g rfl))
          clear q5 q6
          go_wp2_with fail
          go_roundw
          case rel => exact ⟨j + 1, by omega, by go_num, HTn.out⟩
          case measure => simp [intOf]; omega
        · obtain rfl : j = n := by omega
          have nln : ¬ ((j : Nat) : Int) < (j : Int) := by omega
          go_wp2_with fail
          go_roundw
          case rel => exact ⟨k + 1, by omega, by go_num, HT.out⟩
          case measure => simp [intOf]; omega
    · obtain rfl : k = l.length := by omega
      have llt : ¬ ((l.length : Nat) : Int) < (l.length : Int) := by omega
      go_wp2_with fail
      go_loopw [50] (fun t50 wr => ∃ k : Nat, k ≤ cols.length ∧ t50 = .int .i64 k ∧ ToldIn lo w.heap.size w wr hs (l.map List.length) (.slice ala l.length cla) (.slice aca cols.length cca) cols.length) (fun t50 _ => cols.length - (intOf t50).toNat)
      case atStart => exact ⟨0, Nat.zero_le _, rfl, HT.out⟩
      case round =>
        clear d0 d1 HT kk0
        obtain ⟨k, hk, rfl, hT⟩ := hrel
        obtain ⟨wo, ewo⟩ : ∃ x, x = wr := ⟨_, rfl⟩
        subst ewo
        have HT := Lib.hid hT
        have kk0 : (0 : Int) ≤ (k : Int) := by omega
        obtain ⟨d0, d1⟩ := hT.box.cells.c2
        simp only [Nat.zero_add] at d1
        clear hT
        by_cases hlt : k < cols.length
        · have kkl : (k : Int) < (cols.length : Int) := by omega
          obtain ⟨g, cap, ev, g1, g2, g3, g4, g5, g6⟩ := HT.out.col.cell hlt
          injection ev with ev1 ev2 ev3
          subst ev1 ev3
          obtain ⟨u, hu⟩ := g5 0 (by omega)
          rw [Nat.mul_one, Nat.add_zero] at hu
          have hfz := g6 k
          have HTn := Lib.hid (HT.out.set (b := g) (i := k) (.string ⟨#[115, 112, 111, 105, 108, 116]⟩) g1 g2 (fun e => Own.apartT OLa.out.own OCa.out (by decide) e rfl) (.inl rfl))
          clear g5 g6
          go_wp2_with fail
          go_roundw
          case rel => exact ⟨k + 1, by omega, by go_num, HTn.out⟩
          case measure => simp [intOf]; omega
        · obtain rfl : k = cols.length := by omega
          have llt : ¬ ((cols.length : Nat) : Int) < (cols.length : Int) := by omega
          have hr := HR.out _ HT.out.bel HT.out.only
          go_wp2_with fail
          first | exact hr | exact fin hr rfl
theorem told_any (lo lo2 hi2 lc2 hc2 : Nat) (cols : List S) (l : List (List V)) (hs : List Value) (ca cb la lb : Value) (e : Int) (w : World) (hlo : lo ≤ w.heap.size) (hca : OwnT lo w ca cols) (hcb : Strs lc2 hc2 w cb cols) (hla : OwnR lo w la hs l) (hlb : Rws lo2 hi2 w lb l) (h2 : hc2 ≤ w.heap.size) (h4 : hi2 ≤ w.heap.size) (hrs : ∀ x ∈ l, ∀ a ∈ x, a.s.length ≤ 9223372036854775807) (R : Ending → World → Prop)
    (hR : ∀ w', Below lo w w' → R (.returned (.bool true)) w') : Calls Try.prog 28 #[.agg #[ca, la], .int .i64 e, .agg #[cb, lb], .int .i64 e] w R :=
  toldO_any lo lo2 hi2 lc2 hc2 cols l hs ca cb la lb e w hlo hca hcb hla hlb h2 h4 hrs R (fun w' h _ => hR w' h)
/-- A block of relations is not written over. -/
theorem TB.not {lo : Nat} {w : World} {ca la : Value} {hs : List Value} {cols : List S} {l : List (List V)} (hT : OwnT lo w ca cols) (hR : OwnR lo w la hs l) {b : Nat} {cs : List Value} {t : TypeId} (hb : Blk w b cs t) (h1 : t ≠ 9) (h2 : t ≠ 24) : ¬ TB ca hs b := by
  rintro (h | ⟨h, hh, e⟩)
  · exact Own.ne_blk hT hb h1 h
  · obtain ⟨i, hi, rfl⟩ := List.getElem_of_mem hh
    exact Own.ne_blk (hR.row i hi (by rw [← hR.len]; exact hi)) hb h2 e
end Go.Proofs.Ytpncblagjkbemaa
end

/- The law RowsOf, walked. (Printed by rowt.py.) -/
section
set_option linter.unusedVariables false
set_option linter.unusedSimpArgs false
namespace Go.Proofs.Ytpncblagjkbemaa
open Go.RowKit
set_option linter.unusedVariables false
set_option linter.unusedSimpArgs false

theorem great_no {cols : List S} {l : List (List V)} (h : greatB cols l = false) : cols.length ≤ 60 ∧ l.length ≤ 150 ∧ ∀ x ∈ l, x.length ≤ 60 := by
  unfold greatB at h
  simp only [Bool.or_eq_false_iff, decide_eq_false_iff_not, List.any_eq_false, decide_eq_true_eq] at h
  exact ⟨by omega, by omega, fun x hx => by have := h.2 x hx; omega⟩
set_option maxRecDepth 100000 in
set_option maxHeartbeats 4000000 in
theorem RowsOf_any (lo hi lc hc : Nat) (cols : List S) (l : List (List V)) (cv lv : Value) (w : World) (hcols : Strs lc hc w cv cols) (hhc : hc ≤ w.heap.size) (hv : Rws lo hi w lv l) (hhi : hi ≤ w.heap.size) (hrs : ∀ x ∈ l, ∀ a ∈ x, a.s.length ≤ 9223372036854775807) (R : Ending → World → Prop)
    (hR : ∀ w', Below w.heap.size w w' → R (.returned (.bool true)) w') : Calls Try.prog 5 #[cv, lv] w R := by
  have HR := Lib.hid hR
  have Hv := Lib.hid hv
  have Hc := Lib.hid hcols
  have Hrs := Lib.hid hrs
  obtain ⟨ac, cc, rfl, -, -, -, -⟩ := hcols.form
  obtain ⟨av, cv2, rfl, -, -, -, -⟩ := hv.form
  clear hR hv hcols hrs
  go_enter Try.func5, Try.ntmps5
  go_wp2_with fail
  refine great_any lo hi cols ac cc l _ w Hv.out _ ?_
  cases hg : greatB cols l
  · obtain ⟨hcl, hll, hxl⟩ := great_no hg
    have Hxl := Lib.hid hxl
    clear hg hxl
    go_wp2_with fail
    refine lawOwn_any lo hi lc hc cols ac cc l _ w Hc.out hhc Hv.out hhi (by omega) (by omega) (fun x hx => by have := Hxl.out x hx; omega) _ (fun w1 cv3 lv3 hB1 hc3 hv3 => ?_)
    have HB1 := Lib.hid hB1
    have Hc3 := Lib.hid hc3
    have Hv3 := Lib.hid hv3
    obtain ⟨ac3, cc3, rfl, -, -, -, -⟩ := hc3.form
    obtain ⟨av3, cv4, rfl, -, -, -, -⟩ := hv3.form
    clear hB1 hc3 hv3
    go_upto_region 5 with fail
    have hBa := alloc_below w1 (.cells #[.slice ac3 cols.length cc3, .slice av3 l.length cv4] 34)
    have hba := Blk.new w1 [.slice ac3 cols.length cc3, .slice av3 l.length cv4] 34 rfl
    generalize w1.alloc (.cells #[.slice ac3 cols.length cc3, .slice av3 l.length cv4] 34) = w2 at *
    have HBa := Lib.hid hBa
    have Hba := Lib.hid hba
    have hzw := HB1.out.size
    have hza := hBa.size
    have hbal := hba.lt
    clear hBa hba
    go_loopw [6] (fun t6 wr => ∃ k : Nat, 1 ≤ k ∧ k ≤ l.length + 1 ∧ t6 = .int .i64 k ∧ Below w2.heap.size w2 wr) (fun t6 _ => l.length + 1 - (intOf t6).toNat)
    case atStart => exact ⟨1, Nat.le_refl _, by omega, rfl, Below.refl _ _⟩
    case round =>
      obtain ⟨k, hk1, hk, rfl, hB⟩ := hrel
      obtain ⟨wo, ewo⟩ : ∃ x, x = wr := ⟨_, rfl⟩
      subst ewo
      have hz := hB.size
      have HB := Lib.hid hB
      have HBw := Lib.hid ((HB1.out.trans (HBa.out.mono hzw)).trans (hB.mono (by omega)))
      have hzo := HBw.out.size
      have kk0 : (0 : Int) ≤ (k : Int) := by omega
      have Hva := Lib.hid (Sl.below Hv3.out rowE_loc ((HBa.out.trans (HB.out.mono hza))) (Nat.le_refl _))
      have Hca := Lib.hid (Sl.below Hc3.out Strs.loc ((HBa.out.trans (HB.out.mono hza))) (Nat.le_refl _))
      have Hvl := Lib.hid (Sl.below Hv.out rowE_loc HBw.out hhi)
      have Hcl := Lib.hid (Sl.below Hc.out Strs.loc HBw.out hhc)
      have Hbo := Lib.hid (Hba.out.below HB.out hbal)
      clear hB
      by_cases hlt : k < l.length
      · have kkl : (k : Int) < (l.length : Int) := by omega
        obtain ⟨b3, o3, rfl, hb3, hrow3⟩ := Rws.at Hva.out (by omega) (by omega)
        obtain ⟨b4, o4, rfl, hb4, hrow4⟩ := Rws.at Hvl.out (by omega) (by omega)
        have hjl : k - 1 < l.length := by omega
        have kjl : (k : Int) - 1 < (l.length : Int) := by omega
        obtain ⟨j, ej⟩ : ∃ j, j = k - 1 := ⟨_, rfl⟩
        have hkj : (k : Int) - 1 = (j : Int) := by omega
        have jj0 : (0 : Int) ≤ (j : Int) := by omega
        have jjl : (j : Int) < (l.length : Int) := by omega
        obtain ⟨p1, c1, g1, r1⟩ := hrow3 j (by omega)
        obtain ⟨p2, c2, g2, r2⟩ := hrow3 k hlt
        obtain ⟨p3, c3, g3, r3⟩ := hrow4 j (by omega)
        obtain ⟨p4, c4, g4, r4⟩ := hrow4 k hlt
        have G1 := Lib.hid g1
        have G2 := Lib.hid g2
        have G3 := Lib.hid g3
        have G4 := Lib.hid g4
        have R1 := Lib.hid r1
        have R2 := Lib.hid r2
        have R3 := Lib.hid r3
        have R4 := Lib.hid r4
        have M1 := Lib.hid (Hrs.out _ (List.getElem_mem (show j < l.length by omega)))
        have M2 := Lib.hid (Hrs.out _ (List.getElem_mem hlt))
        clear hrow3 hrow4 g1 g2 g3 g4 r1 r2 r3 r4 ej hjl kjl
        generalize l[j] = xa at *
        generalize l[k] = xb at *
        go_upto_region 7 with fail
        have hS0 : Below wo.heap.size wo wo.drew := (Below.refl _ _).drew
        refine wp_region_held_drew (S := fun w' => Below wo.heap.size wo w') (by kernel_rfl) hS0 (fun hHeld => ?_)
        refine wpAnyH_take (i := 0) (v := .pointer (some ⟨w1.heap.size, 1, none⟩)) rfl (by kernel_rfl) (by kernel_rfl) (by kernel_rfl) (fun _ _ _ h => h) (Or.inl ⟨by rfl, ?_⟩) hHeld ?_
        · intro w' hSw; go_simp
        try simp only [Act.put, List.getElem_toArray, List.getElem_cons_succ, List.getElem_cons_zero, List.setIfInBounds_toArray, List.set_cons_zero, List.set_cons_succ]
        refine wpAnyH_take (i := 1) (v := .slice (some ⟨b3, o3, none⟩) l.length cv4) rfl (by kernel_rfl) (by kernel_rfl) (by kernel_rfl) (fun _ _ _ h => h) (Or.inl ⟨by rfl, ?_⟩) hHeld ?_
        · intro w' hSw; obtain ⟨z0, z1⟩ := (Hbo.out.below hSw (by omega)).cells.c2; simp only [Nat.zero_add] at z1; go_simp
        try simp only [Act.put, List.getElem_toArray, List.getElem_cons_succ, List.getElem_cons_zero, List.setIfInBounds_toArray, List.set_cons_zero, List.set_cons_succ]
        refine wpAnyH_take (i := 2) (v := .int .i64 ((k : Int))) rfl (by kernel_rfl) (by kernel_rfl) (by kernel_rfl) (fun _ _ _ h => h) (Or.inl ⟨by rfl, ?_⟩) hHeld ?_
        · intro w' hSw; go_simp
        try simp only [Act.put, List.getElem_toArray, List.getElem_cons_succ, List.getElem_cons_zero, List.setIfInBounds_toArray, List.set_cons_zero, List.set_cons_succ]
        refine wpAnyH_take (i := 3) (v := .int .i64 ((j : Int))) rfl (by kernel_rfl) (by kernel_rfl) (by kernel_rfl) (fun _ _ _ h => h) (Or.inl ⟨by rfl, ?_⟩) hHeld ?_
        · intro w' hSw; go_simp; exact wrapOk jj0 (by omega)
        try simp only [Act.put, List.getElem_toArray, List.getElem_cons_succ, List.getElem_cons_zero, List.setIfInBounds_toArray, List.set_cons_zero, List.set_cons_succ]
        refine wpAnyH_take (i := 4) (v := .pointer (some ⟨b3, o3 + j, none⟩)) rfl (by kernel_rfl) (by kernel_rfl) (by kernel_rfl) (fun _ _ _ h => h) (Or.inl ⟨by rfl, ?_⟩) hHeld ?_
        · intro w' hSw; go_simp
        try simp only [Act.put, List.getElem_toArray, List.getElem_cons_succ, List.getElem_cons_zero, List.setIfInBounds_toArray, List.set_cons_zero, List.set_cons_succ]
        refine wpAnyH_take (i := 5) (v := .slice p1 xa.length c1) rfl (by kernel_rfl) (by kernel_rfl) (by kernel_rfl) (fun _ _ _ h => h) (Or.inl ⟨by rfl, ?_⟩) hHeld ?_
        · intro w' hSw; have kx := G1.out w' hSw; go_simp
        try simp only [Act.put, List.getElem_toArray, List.getElem_cons_succ, List.getElem_cons_zero, List.setIfInBounds_toArray, List.set_cons_zero, List.set_cons_succ]
        refine wpAnyH_take (i := 6) (v := .pointer (some ⟨w1.heap.size, 1, none⟩)) rfl (by kernel_rfl) (by kernel_rfl) (by kernel_rfl) (fun _ _ _ h => h) (Or.inl ⟨by rfl, ?_⟩) hHeld ?_
        · intro w' hSw; go_simp
        try simp only [Act.put, List.getElem_toArray, List.getElem_cons_succ, List.getElem_cons_zero, List.setIfInBounds_toArray, List.set_cons_zero, List.set_cons_succ]
        refine wpAnyH_take (i := 7) (v := .slice (some ⟨b3, o3, none⟩) l.length cv4) rfl (by kernel_rfl) (by kernel_rfl) (by kernel_rfl) (fun _ _ _ h => h) (Or.inl ⟨by rfl, ?_⟩) hHeld ?_
        · intro w' hSw; obtain ⟨z0, z1⟩ := (Hbo.out.below hSw (by omega)).cells.c2; simp only [Nat.zero_add] at z1; go_simp
        try simp only [Act.put, List.getElem_toArray, List.getElem_cons_succ, List.getElem_cons_zero, List.setIfInBounds_toArray, List.set_cons_zero, List.set_cons_succ]
        refine wpAnyH_take (i := 8) (v := .int .i64 ((k : Int))) rfl (by kernel_rfl) (by kernel_rfl) (by kernel_rfl) (fun _ _ _ h => h) (Or.inl ⟨by rfl, ?_⟩) hHeld ?_
        · intro w' hSw; go_simp
        try simp only [Act.put, List.getElem_toArray, List.getElem_cons_succ, List.getElem_cons_zero, List.setIfInBounds_toArray, List.set_cons_zero, List.set_cons_succ]
        refine wpAnyH_take (i := 9) (v := .pointer (some ⟨b3, o3 + k, none⟩)) rfl (by kernel_rfl) (by kernel_rfl) (by kernel_rfl) (fun _ _ _ h => h) (Or.inl ⟨by rfl, ?_⟩) hHeld ?_
        · intro w' hSw; go_simp
        try simp only [Act.put, List.getElem_toArray, List.getElem_cons_succ, List.getElem_cons_zero, List.setIfInBounds_toArray, List.set_cons_zero, List.set_cons_succ]
        refine wpAnyH_take (i := 10) (v := .slice p2 xb.length c2) rfl (by kernel_rfl) (by kernel_rfl) (by kernel_rfl) (fun _ _ _ h => h) (Or.inl ⟨by rfl, ?_⟩) hHeld ?_
        · intro w' hSw; have kx := G2.out w' hSw; go_simp
        try simp only [Act.put, List.getElem_toArray, List.getElem_cons_succ, List.getElem_cons_zero, List.setIfInBounds_toArray, List.set_cons_zero, List.set_cons_succ]
        refine wpAnyH_take (i := 12) (v := .slice (some ⟨b4, o4, none⟩) l.length cv2) rfl (by kernel_rfl) (by kernel_rfl) (by kernel_rfl) (fun _ _ _ h => h) (Or.inl ⟨by rfl, ?_⟩) hHeld ?_
        · intro w' hSw; go_simp
        try simp only [Act.put, List.getElem_toArray, List.getElem_cons_succ, List.getElem_cons_zero, List.setIfInBounds_toArray, List.set_cons_zero, List.set_cons_succ]
        refine wpAnyH_take (i := 13) (v := .int .i64 ((k : Int))) rfl (by kernel_rfl) (by kernel_rfl) (by kernel_rfl) (fun _ _ _ h => h) (Or.inl ⟨by rfl, ?_⟩) hHeld ?_
        · intro w' hSw; go_simp
        try simp only [Act.put, List.getElem_toArray, List.getElem_cons_succ, List.getElem_cons_zero, List.setIfInBounds_toArray, List.set_cons_zero, List.set_cons_succ]
        refine wpAnyH_take (i := 14) (v := .int .i64 ((j : Int))) rfl (by kernel_rfl) (by kernel_rfl) (by kernel_rfl) (fun _ _ _ h => h) (Or.inl ⟨by rfl, ?_⟩) hHeld ?_
        · intro w' hSw; go_simp; exact wrapOk jj0 (by omega)
        try simp only [Act.put, List.getElem_toArray, List.getElem_cons_succ, List.getElem_cons_zero, List.setIfInBounds_toArray, List.set_cons_zero, List.set_cons_succ]
        refine wpAnyH_take (i := 15) (v := .pointer (some ⟨b4, o4 + j, none⟩)) rfl (by kernel_rfl) (by kernel_rfl) (by kernel_rfl) (fun _ _ _ h => h) (Or.inl ⟨by rfl, ?_⟩) hHeld ?_
        · intro w' hSw; go_simp
        try simp only [Act.put, List.getElem_toArray, List.getElem_cons_succ, List.getElem_cons_zero, List.setIfInBounds_toArray, List.set_cons_zero, List.set_cons_succ]
        refine wpAnyH_take (i := 16) (v := .slice p3 xa.length c3) rfl (by kernel_rfl) (by kernel_rfl) (by kernel_rfl) (fun _ _ _ h => h) (Or.inl ⟨by rfl, ?_⟩) hHeld ?_
        · intro w' hSw; have kx := G3.out w' hSw; go_simp
        try simp only [Act.put, List.getElem_toArray, List.getElem_cons_succ, List.getElem_cons_zero, List.setIfInBounds_toArray, List.set_cons_zero, List.set_cons_succ]
        refine wpAnyH_take (i := 17) (v := .slice (some ⟨b4, o4, none⟩) l.length cv2) rfl (by kernel_rfl) (by kernel_rfl) (by kernel_rfl) (fun _ _ _ h => h) (Or.inl ⟨by rfl, ?_⟩) hHeld ?_
        · intro w' hSw; go_simp
        try simp only [Act.put, List.getElem_toArray, List.getElem_cons_succ, List.getElem_cons_zero, List.setIfInBounds_toArray, List.set_cons_zero, List.set_cons_succ]
        refine wpAnyH_take (i := 18) (v := .int .i64 ((k : Int))) rfl (by kernel_rfl) (by kernel_rfl) (by kernel_rfl) (fun _ _ _ h => h) (Or.inl ⟨by rfl, ?_⟩) hHeld ?_
        · intro w' hSw; go_simp
        try simp only [Act.put, List.getElem_toArray, List.getElem_cons_succ, List.getElem_cons_zero, List.setIfInBounds_toArray, List.set_cons_zero, List.set_cons_succ]
        refine wpAnyH_take (i := 19) (v := .pointer (some ⟨b4, o4 + k, none⟩)) rfl (by kernel_rfl) (by kernel_rfl) (by kernel_rfl) (fun _ _ _ h => h) (Or.inl ⟨by rfl, ?_⟩) hHeld ?_
        · intro w' hSw; go_simp
        try simp only [Act.put, List.getElem_toArray, List.getElem_cons_succ, List.getElem_cons_zero, List.setIfInBounds_toArray, List.set_cons_zero, List.set_cons_succ]
        refine wpAnyH_take (i := 20) (v := .slice p4 xb.length c4) rfl (by kernel_rfl) (by kernel_rfl) (by kernel_rfl) (fun _ _ _ h => h) (Or.inl ⟨by rfl, ?_⟩) hHeld ?_
        · intro w' hSw; have kx := G4.out w' hSw; go_simp
        try simp only [Act.put, List.getElem_toArray, List.getElem_cons_succ, List.getElem_cons_zero, List.setIfInBounds_toArray, List.set_cons_zero, List.set_cons_succ]
        refine wpAnyH_ready (rs := [11]) (by kernel_rfl) (by simp) ?_
        refine allCall (f := 24) (args := #[.slice p1 xa.length c1, .slice p2 xb.length c2]) rfl (by kernel_rfl) (by kernel_rfl) ?_ AllReadyH.nil
        refine rowsCompareB_any _ _ _ _ xa xb _ _ wo.drew (Sl.below R1.out Row1.loc hHeld (by omega)) (Sl.below R2.out Row1.loc hHeld (by omega)) (by have := hHeld.size; omega) (by have := hHeld.size; omega) _ (fun wq1 hB => ?_)
        refine ⟨_, rfl, hHeld.trans (hB.mono hHeld.size), ?_⟩
        have hHeld2 := hHeld.trans (hB.mono hHeld.size)
        clear hHeld
        have hHeld := hHeld2
        clear hHeld2
        clear hB
        try simp only [Act.put, List.getElem_toArray, List.getElem_cons_succ, List.getElem_cons_zero, List.setIfInBounds_toArray, List.set_cons_zero, List.set_cons_succ]
        refine wpAnyH_ready (rs := [21]) (by kernel_rfl) (by simp) ?_
        refine allCall (f := 25) (args := #[.slice p3 xa.length c3, .slice p4 xb.length c4]) rfl (by kernel_rfl) (by kernel_rfl) ?_ AllReadyH.nil
        refine refRowsCompare_any _ _ _ _ xa xb _ _ wq1 (Sl.below R3.out Row1.loc hHeld (by omega)) (Sl.below R4.out Row1.loc hHeld (by omega)) (by have := hHeld.size; omega) (by have := hHeld.size; omega) M1.out M2.out _ (fun wq2 hB => ?_)
        refine ⟨_, rfl, hHeld.trans (hB.mono hHeld.size), ?_⟩
        have hHeld2 := hHeld.trans (hB.mono hHeld.size)
        clear hHeld
        have hHeld := hHeld2
        clear hHeld2
        clear hB
        try simp only [Act.put, List.getElem_toArray, List.getElem_cons_succ, List.getElem_cons_zero, List.setIfInBounds_toArray, List.set_cons_zero, List.set_cons_succ]
        refine wpAnyH_take (i := 22) (v := .bool false) rfl (by kernel_rfl) (by kernel_rfl) (by kernel_rfl) (fun _ _ _ h => h) (Or.inl ⟨by rfl, ?_⟩) hHeld ?_
        · intro w' hSw; go_simp
        try simp only [Act.put, List.getElem_toArray, List.getElem_cons_succ, List.getElem_cons_zero, List.setIfInBounds_toArray, List.set_cons_zero, List.set_cons_succ]
        have HH2 := Lib.hid hHeld
        refine wpAnyH_done (by kernel_rfl) ?_ _
        clear hHeld
        have Hn := Lib.hid (HB.out.trans (HH2.out.mono (by omega)))
        go_wp2_with fail
        go_roundw
        case rel => exact ⟨k + 1, by omega, by omega, by go_num, Hn.out⟩
        case measure => simp [intOf]; omega
      · have llt : ¬ (k : Int) < (l.length : Int) := by omega
        clear hk1 hk kk0 HB HBa
        obtain ⟨d0, d1⟩ := Hbo.out.cells.c2
        simp only [Nat.zero_add] at d1
        obtain ⟨oc, hoc⟩ : ∃ oc, okL (ofErr cols l) cols = oc := ⟨_, rfl⟩
        obtain ⟨ol, hol⟩ : ∃ ol, okL (ofErr cols l) (relCanon l) = ol := ⟨_, rfl⟩
        have Hos : Hid (∀ x ∈ ol, ∀ a ∈ x, a.s.length ≤ 9223372036854775807) := Lib.hid (fun x hx => Hrs.out x (relCanon_mem (okL_mem (by rw [hol]; exact hx))))
        go_wp2_with fail
        refine OfK_any w.heap.size w1.heap.size w.heap.size w1.heap.size cols l _ _ wo Hca.out Hva.out (by omega) (by omega) (by omega) (fun x hx => by have := Hxl.out x hx; omega) _ (fun w5 cv5 lv5 hs5 hB5 hT5 hR5 => ?_)
        rw [hoc] at hT5
        rw [hol] at hR5
        obtain ⟨p5, q5, rfl⟩ := Own.slice hT5
        obtain ⟨p6, q6, e6⟩ := Own.slice hR5.own
        rw [hR5.len] at e6
        subst e6
        have HB5 := Lib.hid hB5
        have HT5 := Lib.hid hT5
        have HR5 := Lib.hid hR5
        have hz5 := hB5.size
        clear hB5 hT5 hR5
        clear d0 d1
        go_upto_region 10 with fail
        have hBa := alloc_below w5 (.cells #[.slice p5 oc.length q5, .slice p6 ol.length q6] 34)
        have hba := Blk.new w5 [.slice p5 oc.length q5, .slice p6 ol.length q6] 34 rfl
        generalize w5.alloc (.cells #[.slice p5 oc.length q5, .slice p6 ol.length q6] 34) = w6 at *
        have HB6 := Lib.hid hBa
        have Hb6 := Lib.hid hba
        have hz6 := hBa.size
        have hl6 := hba.lt
        have HW6 := Lib.hid (HBw.out.trans ((HB5.out.mono hzo).trans (HB6.out.mono (by omega))))
        clear hBa hba
        go_wp2_with fail
        refine refOfK_any lo hi lc hc cols _ _ l _ w6 (Sl.below Hc.out Strs.loc HW6.out hhc) (by omega) (Sl.below Hv.out rowE_loc HW6.out hhi) (by omega) (by omega) (fun x hx => by have := Hxl.out x hx; omega) Hrs.out _ (fun w7 cv7 lv7 hB7 hT7 hR7 => ?_)
        rw [hoc] at hT7
        rw [hol] at hR7
        obtain ⟨p7, q7, rfl, -, -, -, -⟩ := hT7.form
        obtain ⟨p8, q8, rfl, -, -, -, -⟩ := hR7.form
        have HB7 := Lib.hid hB7
        have HT7 := Lib.hid hT7
        have HR7 := Lib.hid hR7
        have hz7 := hB7.size
        clear hB7 hT7 hR7
        go_upto_region 11 with fail
        have hBa := alloc_below w7 (.cells #[.slice p7 oc.length q7, .slice p8 ol.length q8] 53)
        have hba := Blk.new w7 [.slice p7 oc.length q7, .slice p8 ol.length q8] 53 rfl
        generalize w7.alloc (.cells #[.slice p7 oc.length q7, .slice p8 ol.length q8] 53) = w8 at *
        have HB8 := Lib.hid hBa
        have hz8 := hBa.size
        have hl8 := hba.lt
        have HB58 := Lib.hid ((HB6.out.trans (HB7.out.mono (by omega))).trans (HB8.out.mono (by omega)))
        have HBo8 := Lib.hid (HB5.out.trans (HB58.out.mono hz5))
        obtain ⟨d0, d1⟩ := (Hb6.out.below (HB7.out.trans (HB8.out.mono hz7)) hl6).cells.c2
        obtain ⟨e0, e1⟩ := hba.cells.c2
        simp only [Nat.zero_add] at d1 e1
        clear hBa hba
        go_wp2_with fail
        refine told_any wo.heap.size 0 w7.heap.size 0 w7.heap.size oc ol hs5 _ _ _ _ _ w8 (by omega) (Own.kept HT5.out HB58.out) (Sl.below HT7.out Strs.loc HB8.out (Nat.le_refl _)) (OwnR.kept HR5.out HB58.out) (Sl.below HR7.out rowE_loc HB8.out (Nat.le_refl _)) (by omega) (by omega) Hos.out _ (fun w9 hB9 => ?_)
        have HBo9 := Lib.hid (HBo8.out.trans hB9)
        have hz9 := HBo9.out.size
        obtain ⟨d0, d1⟩ := (Hbo.out.below HBo9.out (by omega)).cells.c2
        simp only [Nat.zero_add] at d1
        clear hB9
        go_wp2_with fail
        refine lawSame_any w.heap.size w1.heap.size lo hi w.heap.size w1.heap.size lc hc cols l _ _ _ _ w9 (Sl.below Hca.out Strs.loc HBo9.out (by omega)) (Sl.below Hcl.out Strs.loc HBo9.out (by omega)) (Sl.below Hva.out rowE_loc HBo9.out (by omega)) (Sl.below Hvl.out rowE_loc HBo9.out (by omega)) (by omega) (by omega) (by omega) (by omega) Hrs.out _ (fun w10 hB10 => ?_)
        have hr := HR.out w10 ((HBw.out.trans (HBo9.out.mono hzo)).trans (hB10.mono (by omega)))
        clear hB10
        go_wp2_with fail
        first | exact hr | exact fin hr rfl
  · have hr := HR.out w (Below.refl _ _)
    clear hg
    go_wp2_with fail
    first | exact hr | exact fin hr rfl
end Go.Proofs.Ytpncblagjkbemaa
end

/- The law RowsPicks, walked. (Printed by rowp.py.) -/
section
set_option linter.unusedVariables false
set_option linter.unusedSimpArgs false
namespace Go.Proofs.Ytpncblagjkbemaa
open Go.RowKit
set_option linter.unusedVariables false
set_option linter.unusedSimpArgs false
attribute [local go_sem ↓] Go.wp_at_zero Go.wp_at_succ

/-- A block of relations is written: what is a call's own stays. -/
theorem own2Set {lo : Nat} {w : World} {ca la : Value} {hs : List Value} {cols : List S} {l : List (List V)} (hT : OwnT lo w ca cols) (hR : OwnR lo w la hs l) {b : Nat} {x0 x1 : Value} {t : TypeId} (hb : Blk w b [x0, x1] t) (h1 : t ≠ 9) (h2 : t ≠ 42) (h3 : t ≠ 24) (u0 u1 : Value) :
    OwnT lo ((w.setCell ⟨b, 0, none⟩ u0).setCell ⟨b, 1, none⟩ u1) ca cols ∧ OwnR lo ((w.setCell ⟨b, 0, none⟩ u0).setCell ⟨b, 1, none⟩ u1) la hs l ∧ Blk ((w.setCell ⟨b, 0, none⟩ u0).setCell ⟨b, 1, none⟩ u1) b [u0, u1] t :=
  ⟨Own.setOther (Own.setOther hT (p := ⟨b, 0, none⟩) (Own.ne_blk hT hb h1) _) (p := ⟨b, 1, none⟩) (Own.ne_blk hT hb h1) _, (hR.setBlk hb h2 h3 0 _).setBlk (hb.set 0 _) h2 h3 1 _, (hb.set 0 u0).set 1 u1⟩
theorem agree2Set {lo hi : Nat} (w : World) {b : Nat} (h : b < lo ∨ hi ≤ b) (u0 u1 : Value) : Agree lo hi w ((w.setCell ⟨b, 0, none⟩ u0).setCell ⟨b, 1, none⟩ u1) :=
  (Agree.setCell w (p := ⟨b, 0, none⟩) h _).trans (Agree.setCell _ (p := ⟨b, 1, none⟩) h _)
theorem below2Set {B : Nat} (w : World) {b : Nat} (h : B ≤ b) (u0 u1 : Value) : Below B w ((w.setCell ⟨b, 0, none⟩ u0).setCell ⟨b, 1, none⟩ u1) :=
  ((Below.refl B w).setCell (p := ⟨b, 0, none⟩) h _).setCell (p := ⟨b, 1, none⟩) h _
theorem blk2Set {w : World} {b g : Nat} {cs : List Value} {t : TypeId} (hb : Blk w g cs t) (h : g ≠ b) (u0 u1 : Value) : Blk ((w.setCell ⟨b, 0, none⟩ u0).setCell ⟨b, 1, none⟩ u1) g cs t :=
  (hb.other (p := ⟨b, 0, none⟩) h _).other (p := ⟨b, 1, none⟩) h _
theorem size2Set (w : World) (b : Nat) (u0 u1 : Value) : w.heap.size ≤ ((w.setCell ⟨b, 0, none⟩ u0).setCell ⟨b, 1, none⟩ u1).heap.size := Nat.le_of_eq (by simp)
theorem keepL_mem {keep : Nat → Bool} {l : List (List V)} {x : List V} (h : x ∈ keepL keep l) : x ∈ l := by
  unfold keepL at h
  obtain ⟨i, hi, rfl⟩ := List.mem_map.1 h
  have := List.mem_range.1 (List.mem_filter.1 hi).1
  rw [getDS l _ i this]
  exact List.getElem_mem this
/-- Rows of which the headers are a call's own, and the values lie in some blocks ahead of these. -/
def LS (lo a b : Nat) (w : World) (v : Value) (xs : List (List V)) : Prop :=
  ∃ hs : List HD, hs.length = xs.length ∧ OwnHD lo w v hs ∧ ∀ i (h1 : i < hs.length) (h2 : i < xs.length), Row1 a b w hs[i].v xs[i]
theorem LS.nil (lo a b : Nat) (w : World) : LS lo a b w (.slice none 0 0) [] := ⟨[], rfl, Own.nil _ _ _ _ _, fun i h => absurd h (Nat.not_lt_zero _)⟩
theorem LS.slice {lo a b : Nat} {w : World} {v : Value} {xs : List (List V)} (h : LS lo a b w v xs) : ∃ p c, v = .slice p xs.length c := by
  obtain ⟨hs, hl, ho, -⟩ := h
  obtain ⟨p, c, e⟩ := Own.slice ho
  exact ⟨p, c, by rw [e, hl]⟩
theorem LS.lt {lo a b : Nat} {w : World} {v : Value} {xs : List (List V)} (h : LS lo a b w v xs) : ∀ k, v.ownBlock = some k → lo ≤ k ∧ k < w.heap.size := by
  obtain ⟨hs, hl, ho, hr⟩ := h
  exact Own.lt ho
theorem LS.rws {lo a b : Nat} {w : World} {v : Value} {xs : List (List V)} (h : LS lo a b w v xs) (hb : b ≤ w.heap.size) : Rws 0 w.heap.size w v xs := by
  obtain ⟨hs, hl, ho, hr⟩ := h
  have hsl : Sl (flat HD.enc) 1 lo w.heap.size w v hs := Sl.ofOwn (fun _ => rfl) ho
  obtain ⟨ao, cap, hv, hle, hcm, hn, hc⟩ := hsl.form
  refine ⟨ao, cap, by rw [hv, hl], by rw [← hl]; exact hle, by simpa [maxLen] using hcm, hn, fun hne => ?_⟩
  have h0 : 0 < hs.length := by
    rw [hl]
    cases xs with
    | nil => exact absurd rfl hne
    | cons a r => simp
  obtain ⟨b', off, rfl, hb1, hb2, hcc⟩ := hc 0 h0
  refine ⟨b', off, rfl, Nat.zero_le _, hb2, fun k hk => ?_⟩
  have hk' : k < hs.length := by rw [hl]; exact hk
  obtain ⟨cs, hcl, hcs, rfl⟩ := hcc k hk'
  exact ⟨_, hcl, hcs, hs[k].v, rfl, (hr k hk' hk).mono Row1.loc (Nat.zero_le _) hb⟩
theorem LS.same {lo a b : Nat} {w w' : World} {v : Value} {xs : List (List V)} (h : LS lo a b w v xs) (hv : ∀ g, v.ownBlock = some g → w'.heap[g]? = w.heap[g]?) (ha : Agree a b w w') : LS lo a b w' v xs := by
  obtain ⟨hs, hl, ho, hr⟩ := h
  exact ⟨hs, hl, Own.same ho hv, fun i h1 h2 => (hr i h1 h2).agree Row1.loc ha⟩
theorem LS.snoc {lo a b : Nat} {w : World} {v : Value} {xs : List (List V)} (h : LS lo a b w v xs) (hbl : b ≤ lo) (pa : Option Addr) (pc : Nat) (x : List V) (hx : Row1 a b w (.slice pa x.length pc) x) {n : Nat} (hn : n = w.heap.size) (hb : xs.length ≤ 4000000000000) (hlo : lo ≤ w.heap.size) :
    ∃ v' w', (Builtin.append_ #[32, 32] 32 #[v, .slice (some ⟨n, 0, none⟩) 1 1]).run Try.prog (w.alloc (.cells #[.slice pa x.length pc] 42)) = .ok v' w' ∧ LS lo a b w' v' (xs ++ [x]) ∧ Appended w v w' v' := by
  subst hn
  obtain ⟨hs, hl, ho, hr⟩ := h
  have hB := alloc_below w (.cells (HD.enc ⟨pa, x.length, pc⟩).toArray 42)
  obtain ⟨i0, hi, hz0, hz1, hz2⟩ := info_parts infoHD
  have hc := CellsAt.newAt w (HD.enc ⟨pa, x.length, pc⟩) 42 rfl
  have hsr : Src Try.prog 1 32 (.slice (some ⟨w.heap.size, 0, none⟩) 1 1) [(⟨pa, x.length, pc⟩ : HD)].length ([(⟨pa, x.length, pc⟩ : HD)].flatMap HD.enc) (w.alloc (.cells (HD.enc ⟨pa, x.length, pc⟩).toArray 42)) :=
    Src.ofSlice _ Try.underlying32 _ _ _ _ (by simp [HD.enc]) (fun j u hu => by rw [Addr.add_lit]; exact hc j u (by simpa using hu)) (fun u hu => by
      rw [List.flatMap_cons, List.flatMap_nil, List.append_nil] at hu
      exact HD.one _ u hu)
  obtain ⟨v', w', hrun, ho', hap⟩ := (Own.kept ho hB).app _ _ _ i0 _ 24 Try.underlying32 hi hz0 hz1 hz2 rfl hsr (by simp only [List.length_cons, List.length_nil]; omega) (by omega) (Nat.le_trans hlo hB.size)
  have hapw := (Appended.step v hB).trans hap
  have hag : Agree a b w w' := hapw.agree (by omega) (fun k e => .inr (by have := (Own.lt ho k e).1; omega))
  refine ⟨v', w', hrun, ⟨hs ++ [⟨pa, x.length, pc⟩], by simp [hl], ho', fun i h1 h2 => ?_⟩, hapw⟩
  by_cases hi2 : i < hs.length
  · rw [List.getElem_append_left hi2, List.getElem_append_left (by omega)]
    exact (hr i hi2 (by omega)).agree Row1.loc hag
  · have e1 : i = hs.length := by rw [List.length_append, List.length_singleton] at h1; omega
    subst e1
    rw [List.getElem_append_right (Nat.le_refl _), List.getElem_append_right (by omega)]
    simp only [hl, Nat.sub_self, List.getElem_cons_zero]
    exact hx.agree Row1.loc hag
/-- Rows of a relation that may be make one, however few. -/
theorem of_made {rc : List S} {l xs : List (List V)} (h : mayRel rc l = true) (hs : ∀ x ∈ xs, x ∈ l) : ofErr rc xs = madeErr rc xs := by
  have h1 : fitB rc xs = true := by
    unfold fitB
    have h0 : onceB rc = true := by
      unfold mayRel at h
      simp only [Bool.and_eq_true] at h
      exact h.1.1
    rw [h0, Bool.true_and, Bool.not_eq_true', List.any_eq_false]
    intro x hx
    have := may_len h x (hs x hx)
    simp [this]
  have h2 := (may_many h).2
  unfold ofErr madeErr
  rw [if_pos h1]
  by_cases h3 : 100000 < (relCanon xs).length
  · rw [if_pos h3, if_pos (.inr h3)]
  · rw [if_neg h3, if_neg (by omega)]
set_option maxRecDepth 100000 in
set_option maxHeartbeats 8000000 in
theorem RowsPicks_any (lo hi lc hc l3 h3 l4 h4 : Nat) (rc : List S) (ac : Option Addr) (cc : Nat) (l : List (List V)) (lv : Value) (cols : List S) (cv : Value) (x : List V) (xv : Value) (w : World) (hrc : Strs lc hc w (.slice ac rc.length cc) rc) (hhc : hc ≤ w.heap.size) (hv : Rws lo hi w lv l) (hhi : hi ≤ w.heap.size) (hcols : Strs l3 h3 w cv cols) (hh3 : h3 ≤ w.heap.size) (hx : Row1 l4 h4 w xv x) (hh4 : h4 ≤ w.heap.size)
    (hrs : ∀ x ∈ l, ∀ a ∈ x, a.s.length ≤ 9223372036854775807) (hxs : ∀ a ∈ x, a.s.length ≤ 9223372036854775807) (R : Ending → World → Prop)
    (hR : ∀ w', Below w.heap.size w w' → R (.returned (.bool true)) w') : Calls Try.prog 6 #[.agg #[.slice ac rc.length cc, lv], cv, xv] w R := by
  have HR := Lib.hid hR
  have Hl0 := Lib.hid hv
  have Hrc0 := Lib.hid hrc
  have Hc0 := Lib.hid hcols
  have Hx0 := Lib.hid hx
  have Hrs := Lib.hid hrs
  have Hxs := Lib.hid hxs
  obtain ⟨av, cv2, rfl, -, -, -, -⟩ := hv.form
  obtain ⟨ak, ck, rfl, -, -, -, -⟩ := hcols.form
  obtain ⟨ax, cx, rfl, -, -, -, -⟩ := hx.form
  have hxl63 := hx.len
  clear hR hv hrc hcols hx hrs hxs
  go_enter Try.func6, Try.ntmps6
  go_upto_region 1 with fail
  have hBa := alloc_below w (.cells #[.slice ac rc.length cc, .slice av l.length cv2] 34)
  have hba := Blk.new w [.slice ac rc.length cc, .slice av l.length cv2] 34 rfl
  generalize w.alloc (.cells #[.slice ac rc.length cc, .slice av l.length cv2] 34) = wa at *
  have HBa := Lib.hid hBa
  have Hba := Lib.hid hba
  have hza := hBa.size
  have hla := hba.lt
  obtain ⟨c0, c1⟩ := hba.cells.c2
  simp only [Nat.zero_add] at c1
  clear hBa hba
  go_wp2_with fail
  refine great_any lo hi rc ac cc l _ wa (Sl.below Hl0.out rowE_loc HBa.out hhi) _ ?_
  cases hg : greatB rc l
  case true =>
    have hr := HR.out wa HBa.out
    clear hg
    go_wp2_with fail
    first | exact hr | exact fin hr rfl
  obtain ⟨hcl, hll, hxl⟩ := great_no hg
  have Hxl := Lib.hid hxl
  clear hg hxl
  go_wp2_with fail
  refine great_any 0 0 cols ak ck [] _ wa (Sl.nil _ _ _ _ _) _ ?_
  cases hg : greatB cols []
  case true =>
    have hr := HR.out wa HBa.out
    clear hg
    go_wp2_with fail
    first | exact hr | exact fin hr rfl
  have hkl := (great_no hg).1
  clear hg
  by_cases hx60 : 60 < x.length
  case pos =>
    have hr := HR.out wa HBa.out
    have g1 : (60 : Int) < (x.length : Int) := by omega
    go_wp2_with fail
    first | exact hr | exact fin hr rfl
  have g1 : ¬ (60 : Int) < (x.length : Int) := by omega
  go_wp2_with fail
  refine lawOwn_any lo hi lc hc rc ac cc l _ wa (Sl.below Hrc0.out Strs.loc HBa.out hhc) (by omega) (Sl.below Hl0.out rowE_loc HBa.out hhi) (by omega) (by omega) (by omega) (fun x hx => by have := Hxl.out x hx; omega) _ (fun w1 ycv ylv hB1 hyc hyl => ?_)
  have HB1 := Lib.hid hB1
  have Hyc1 := Lib.hid hyc
  have Hyl1 := Lib.hid hyl
  have hz1 := hB1.size
  obtain ⟨ayc, cyc, rfl, -, -, -, -⟩ := hyc.form
  obtain ⟨ayl, cyl, rfl, -, -, -, -⟩ := hyl.form
  clear hB1 hyc hyl c0 c1
  go_upto_region 4 with fail
  have hBa := alloc_below w1 (.cells #[.slice ayc rc.length cyc, .slice ayl l.length cyl] 34)
  have hba := Blk.new w1 [.slice ayc rc.length cyc, .slice ayl l.length cyl] 34 rfl
  generalize w1.alloc (.cells #[.slice ayc rc.length cyc, .slice ayl l.length cyl] 34) = w2 at *
  have HB12 := Lib.hid hBa
  have Hby := Lib.hid hba
  have hz2 := hBa.size
  have hby := hba.lt
  have HBw2 := Lib.hid (HBa.out.trans ((HB1.out.mono hza).trans (hBa.mono (by omega))))
  have Hbr := Lib.hid (Hba.out.below (HB1.out.trans (hBa.mono hz1)) hla)
  have Hyc := Lib.hid (Sl.below Hyc1.out Strs.loc hBa (Nat.le_refl _))
  have Hyl := Lib.hid (Sl.below Hyl1.out rowE_loc hBa (Nat.le_refl _))
  have Hrc := Lib.hid (Sl.below Hrc0.out Strs.loc HBw2.out hhc)
  have Hl := Lib.hid (Sl.below Hl0.out rowE_loc HBw2.out hhi)
  have Hc := Lib.hid (Sl.below Hc0.out Strs.loc HBw2.out hh3)
  have Hx := Lib.hid (Sl.below Hx0.out Row1.loc HBw2.out hh4)
  clear hBa hba Hyc1 Hyl1 Hrc0 Hl0 Hc0 Hx0 HB12 HB1 Hba HBa
  have hr2 : w.heap.size < w2.heap.size := by omega
  have HA2 : Hid (Below w2.heap.size w2 w2) := Lib.hid (Below.refl _ _)
  obtain ⟨c0, c1⟩ := Hby.out.cells.c2
  simp only [Nat.zero_add] at c1
  go_wp2_with fail
  obtain ⟨oc1, hoc1⟩ : ∃ oc, okL (projErr rc l cols) cols = oc := ⟨_, rfl⟩
  obtain ⟨ol1, hol1⟩ : ∃ ol, okL (projErr rc l cols) (relCanon (l.map fun x => pickL x (placesL cols rc))) = ol := ⟨_, rfl⟩
  have Hos1 : Hid (∀ x ∈ ol1, ∀ a ∈ x, a.s.length ≤ 9223372036854775807) := Lib.hid (fun x hx => by
    have h1 := relCanon_mem (okL_mem (by rw [hol1]; exact hx))
    obtain ⟨y, hy, rfl⟩ := List.mem_map.1 h1
    exact pick_str (Hrs.out y hy))
  refine Project_any wa.heap.size w1.heap.size wa.heap.size w1.heap.size l3 h3 rc _ _ l _ cols _ w2 Hyc.out (by omega) Hyl.out (by omega) Hc.out (by omega) (by omega) (by omega) _ (fun w3 cv3 lv3 hs3 hB3 hT3 hR3 => ?_)
  rw [hoc1] at hT3
  rw [hol1] at hR3
  obtain ⟨p3, q3, rfl⟩ := Own.slice hT3
  obtain ⟨p4, q4, e4⟩ := Own.slice hR3.own
  rw [hR3.len] at e4
  subst e4
  have HA3 := Lib.hid hB3
  have HT3 := Lib.hid hT3
  have HR3 := Lib.hid hR3
  have hz3 := hB3.size
  clear hB3 hT3 hR3 c0 c1
  go_upto_region 5 with fail
  have hBa := alloc_below w3 (.cells #[.slice p3 oc1.length q3, .slice p4 ol1.length q4] 34)
  have hba := Blk.new w3 [.slice p3 oc1.length q3, .slice p4 ol1.length q4] 34 rfl
  generalize w3.alloc (.cells #[.slice p3 oc1.length q3, .slice p4 ol1.length q4] 34) = w4 at *
  have HB3_4 := Lib.hid hBa
  have Hb8_4 := Lib.hid hba
  have hz4 := hBa.size
  have hlb8 := hba.lt
  have HA4 := Lib.hid (HA3.out.trans (hBa.mono (by omega)))
  clear hBa hba
  obtain ⟨c0, c1⟩ := (Hbr.out.below HA4.out (by omega)).cells.c2
  simp only [Nat.zero_add] at c1
  go_wp2_with fail
  refine ref_any _ _ _ _ _ _ w4 _ (fun w5 hB5 => ?_)
  have HB45 := Lib.hid hB5
  have hz5 := hB5.size
  have HA5 := Lib.hid (HA4.out.trans (hB5.mono (by omega)))
  clear hB5 c0 c1
  go_wp2_with fail
  refine refProject_any lo hi lc hc l3 h3 rc _ _ l _ cols _ w5 (Sl.below Hrc.out Strs.loc HA5.out (by omega)) (by omega) (Sl.below Hl.out rowE_loc HA5.out (by omega)) (by omega) (Sl.below Hc.out Strs.loc HA5.out (by omega)) (by omega) (by omega) (by omega) Hrs.out _ (fun w6 cv6 lv6 hB6 hT6 hR6 => ?_)
  rw [hoc1] at hT6
  rw [hol1] at hR6
  obtain ⟨p5, q5, rfl, -, -, -, -⟩ := hT6.form
  obtain ⟨p6, q6, rfl, -, -, -, -⟩ := hR6.form
  have HB56 := Lib.hid hB6
  have hz6 := hB6.size
  have HA6 := Lib.hid (HA5.out.trans (hB6.mono (by omega)))
  have HT6 := Lib.hid hT6
  have HR6 := Lib.hid hR6
  clear hB6 hT6 hR6
  go_upto_region 6 with fail
  have hBa := alloc_below w6 (.cells #[.slice p5 oc1.length q5, .slice p6 ol1.length q6] 53)
  have hba := Blk.new w6 [.slice p5 oc1.length q5, .slice p6 ol1.length q6] 53 rfl
  generalize w6.alloc (.cells #[.slice p5 oc1.length q5, .slice p6 ol1.length q6] 53) = w7 at *
  have HB6_7 := Lib.hid hBa
  have Hb10_7 := Lib.hid hba
  have hz7 := hBa.size
  have hlb10 := hba.lt
  have HA7 := Lib.hid (HA6.out.trans (hBa.mono (by omega)))
  clear hBa hba
  have HB47 := Lib.hid ((HB45.out.trans (HB56.out.mono (by omega))).trans (HB6_7.out.mono (by omega)))
  have HB37 := Lib.hid (HB3_4.out.trans (HB47.out.mono (by omega)))
  have Hb8_7 := Lib.hid (Hb8_4.out.below HB47.out hlb8)
  obtain ⟨c0, c1⟩ := (Hb8_7.out).cells.c2
  simp only [Nat.zero_add] at c1
  obtain ⟨d0, d1⟩ := (Hb10_7.out).cells.c2
  simp only [Nat.zero_add] at d1
  go_wp2_with fail
  have hT7 := Own.kept HT3.out HB37.out
  have hR7 := OwnR.kept HR3.out HB37.out
  refine toldO_any w2.heap.size w5.heap.size w6.heap.size l3 h3 oc1 ol1 hs3 _ _ _ _ _ w7 (by omega) hT7 (Sl.below HT6.out Strs.loc HB6_7.out (by omega)) hR7 (Sl.below HR6.out rowE_loc HB6_7.out (Nat.le_refl _)) (by omega) (by omega) Hos1.out _ (fun w8 hB8 hO8 => ?_)
  have Hb8_8 := Lib.hid (hO8.blk Hb8_7.out (TB.not hT7 hR7 Hb8_7.out (by decide) (by decide)))
  have Hb10_8 := Lib.hid (hO8.blk Hb10_7.out (TB.not hT7 hR7 Hb10_7.out (by decide) (by decide)))
  have HA8 := Lib.hid (HA7.out.trans hB8)
  have hz8 := hB8.size
  clear hB8 hO8 hT7 hR7 c0 c1 d0 d1 HB45 HB56 HB6_7 HB47 HB37 HB3_4 Hb8_4 Hb8_7 Hb10_7 HT3 HR3 HT6 HR6 HA3 HA4 HA5 HA6 HA7 hoc1 hol1 Hos1
  have hlb8 : w3.heap.size < w8.heap.size := by omega
  have hlb10 : w6.heap.size < w8.heap.size := by omega
  obtain ⟨b8, eb8⟩ : ∃ b, b = w3.heap.size := ⟨_, rfl⟩
  obtain ⟨b10, eb10⟩ : ∃ b, b = w6.heap.size := ⟨_, rfl⟩
  have h2b8 : w2.heap.size ≤ b8 := by omega
  have h2b10 : w2.heap.size ≤ b10 := by omega
  have hb810 : b8 < b10 := by omega
  rw [← eb8] at Hb8_8 hlb8
  rw [← eb10] at Hb10_8 hlb10
  rw [← eb8, ← eb10]
  clear eb8 eb10
  obtain ⟨c0, c1⟩ := (Hby.out.below HA8.out hby).cells.c2
  simp only [Nat.zero_add] at c1
  go_wp2_with fail
  obtain ⟨oc2, hoc2⟩ : ∃ oc, okL (renErr rc l cols) cols = oc := ⟨_, rfl⟩
  obtain ⟨ol2, hol2⟩ : ∃ ol, okL (renErr rc l cols) (relCanon l) = ol := ⟨_, rfl⟩
  have Hos2 : Hid (∀ x ∈ ol2, ∀ a ∈ x, a.s.length ≤ 9223372036854775807) := Lib.hid (fun x hx => by
    have h1 := relCanon_mem (okL_mem (by rw [hol2]; exact hx))
    exact Hrs.out x h1)
  refine Rename_any wa.heap.size w1.heap.size wa.heap.size w1.heap.size l3 h3 rc _ _ l _ cols _ w8 (Sl.below Hyc.out Strs.loc HA8.out (by omega)) (by omega) (Sl.below Hyl.out rowE_loc HA8.out (by omega)) (by omega) (Sl.below Hc.out Strs.loc HA8.out (by omega)) (by omega) (by omega) _ (fun w9 cv3 lv3 hs3 hB3 hT3 hR3 => ?_)
  rw [hoc2] at hT3
  rw [hol2] at hR3
  have hA3 := HA8.out.trans (hB3.mono (by omega))
  have hb8 := Hb8_8.out.below hB3 hlb8
  have hb10 := Hb10_8.out.below hB3 hlb10
  have hz89 := hB3.size
  clear hB3 c0 c1 Hb8_8 Hb10_8
  obtain ⟨p3, q3, rfl⟩ := Own.slice hT3
  obtain ⟨p4, q4, e4⟩ := Own.slice hR3.own
  rw [hR3.len] at e4
  subst e4
  have HA9 := Lib.hid hA3
  have hz9 := hA3.size
  have HT3 := Lib.hid hT3
  have HR3 := Lib.hid hR3
  have Hb8_9 := Lib.hid hb8
  have Hb10_9 := Lib.hid hb10
  have f0 := hb8.free 0
  have f1 := hb8.free 1
  obtain ⟨c0, c1⟩ := (hb8).cells.c2
  simp only [Nat.zero_add] at c1
  clear hA3 hT3 hR3 hb8 hb10
  go_upto_region 9 with fail
  have hown := own2Set HT3.out HR3.out Hb8_9.out (by decide) (by decide) (by decide) (.slice p3 oc2.length q3) (.slice p4 ol2.length q4)
  have hb10' := blk2Set Hb10_9.out (show b10 ≠ b8 by omega) (.slice p3 oc2.length q3) (.slice p4 ol2.length q4)
  have hA' := HA9.out.trans (below2Set w9 h2b8 (.slice p3 oc2.length q3) (.slice p4 ol2.length q4))
  have hzz := size2Set w9 b8 (.slice p3 oc2.length q3) (.slice p4 ol2.length q4)
  clear c0 c1 f0 f1 HT3 HR3 Hb8_9 Hb10_9
  generalize (w9.setCell ⟨b8, 0, none⟩ (.slice p3 oc2.length q3)).setCell ⟨b8, 1, none⟩ (.slice p4 ol2.length q4) = w10 at *
  obtain ⟨hT2, hR2, hb82⟩ := hown
  have HT10 := Lib.hid hT2
  have HR10 := Lib.hid hR2
  have Hb8_10 := Lib.hid hb82
  have Hb10_10 := Lib.hid hb10'
  have HA10 := Lib.hid hA'
  have hz10 := hA'.size
  clear hT2 hR2 hb82 hb10' hA'
  obtain ⟨c0, c1⟩ := (Hbr.out.below HA10.out (by omega)).cells.c2
  simp only [Nat.zero_add] at c1
  go_wp2_with fail
  refine ref_any _ _ _ _ _ _ w10 _ (fun w11 hB => ?_)
  have HB10_11 := Lib.hid hB
  have hz11 := hB.size
  have HA11 := Lib.hid (HA10.out.trans (hB.mono (by omega)))
  clear hB c0 c1
  go_wp2_with fail
  refine refRename_any lo hi lc hc l3 h3 rc _ _ l _ cols _ w11 (Sl.below Hrc.out Strs.loc HA11.out (by omega)) (by omega) (Sl.below Hl.out rowE_loc HA11.out (by omega)) (by omega) (Sl.below Hc.out Strs.loc HA11.out (by omega)) (by omega) (by omega) Hrs.out _ (fun w12 cv6 lv6 hB6 hT6 hR6 => ?_)
  rw [hoc2] at hT6
  rw [hol2] at hR6
  obtain ⟨p5, q5, rfl, -, -, -, -⟩ := hT6.form
  obtain ⟨p6, q6, rfl, -, -, -, -⟩ := hR6.form
  have HB11_12 := Lib.hid hB6
  have hz12 := hB6.size
  have HA12 := Lib.hid (HA11.out.trans (hB6.mono (by omega)))
  have hB24 := HB10_11.out.trans (hB6.mono (by omega))
  have HT4 := Lib.hid (Own.kept HT10.out hB24)
  have HR4 := Lib.hid (OwnR.kept HR10.out hB24)
  have Hb8_12 := Lib.hid (Hb8_10.out.below hB24 Hb8_10.out.lt)
  have Hb10_12 := Lib.hid (Hb10_10.out.below hB24 Hb10_10.out.lt)
  have HT6 := Lib.hid hT6
  have HR6 := Lib.hid hR6
  have hb10l := Hb10_10.out.lt
  have f0 := Hb10_12.out.free 0
  have f1 := Hb10_12.out.free 1
  obtain ⟨c0, c1⟩ := (Hb10_12.out).cells.c2
  simp only [Nat.zero_add] at c1
  clear hB6 hT6 hR6 hB24
  go_upto_region 10 with fail
  have hown := own2Set HT4.out HR4.out Hb10_12.out (by decide) (by decide) (by decide) (.slice p5 oc2.length q5) (.slice p6 ol2.length q6)
  have hb8' := blk2Set Hb8_12.out (show b8 ≠ b10 by omega) (.slice p5 oc2.length q5) (.slice p6 ol2.length q6)
  have hA' := HA12.out.trans (below2Set w12 h2b10 (.slice p5 oc2.length q5) (.slice p6 ol2.length q6))
  have hTb := Sl.agree HT6.out Strs.loc (agree2Set w12 (b := b10) (.inr (by omega)) (.slice p5 oc2.length q5) (.slice p6 ol2.length q6))
  have hRb := Sl.agree HR6.out rowE_loc (agree2Set w12 (b := b10) (.inl (by omega)) (.slice p5 oc2.length q5) (.slice p6 ol2.length q6))
  have hzz := size2Set w12 b10 (.slice p5 oc2.length q5) (.slice p6 ol2.length q6)
  clear c0 c1 f0 f1 HT4 HR4 HT6 HR6 Hb8_12 Hb10_12
  generalize (w12.setCell ⟨b10, 0, none⟩ (.slice p5 oc2.length q5)).setCell ⟨b10, 1, none⟩ (.slice p6 ol2.length q6) = w13 at *
  obtain ⟨hT5, hR5, hb105⟩ := hown
  have HT5 := Lib.hid hT5
  have HR5 := Lib.hid hR5
  have HTb := Lib.hid hTb
  have HRb := Lib.hid hRb
  have Hb8_13 := Lib.hid hb8'
  have Hb10_13 := Lib.hid hb105
  have HA13 := Lib.hid hA'
  have hz13 := hA'.size
  clear hT5 hR5 hb105 hb8' hA' hTb hRb
  obtain ⟨c0, c1⟩ := (Hb8_13.out).cells.c2
  simp only [Nat.zero_add] at c1
  obtain ⟨d0, d1⟩ := (Hb10_13.out).cells.c2
  simp only [Nat.zero_add] at d1
  go_wp2_with fail
  refine toldO_any w2.heap.size w11.heap.size w12.heap.size l3 h3 oc2 ol2 _ _ _ _ _ _ w13 (by omega) (Own.lower HT5.out (by omega)) HTb.out (OwnR.lower HR5.out (by omega)) HRb.out (by omega) (by omega) Hos2.out _ (fun w14 hB8 hO8 => ?_)
  have Hb8_14 := Lib.hid (hO8.blk Hb8_13.out (TB.not HT5.out HR5.out Hb8_13.out (by decide) (by decide)))
  have Hb10_14 := Lib.hid (hO8.blk Hb10_13.out (TB.not HT5.out HR5.out Hb10_13.out (by decide) (by decide)))
  have HA14 := Lib.hid (HA13.out.trans hB8)
  have hz14 := HA14.out.size
  clear hB8 hO8 c0 c1 d0 d1 HT5 HR5 HTb HRb Hb8_13 Hb10_13 HA9 HA10 HA11 HA12 HA13 hoc2 hol2 Hos2 HB10_11 HB11_12 HT10 HR10 Hb8_10 Hb10_10 hzz
  go_upto_region 14 with fail
  obtain ⟨wq, ewq⟩ : ∃ x, x = w14.alloc (.cells #[.int .i64 0] 3) := ⟨_, rfl⟩
  obtain ⟨w16, ew16⟩ : ∃ x, x = wq.alloc (.cells #[.bool true] 4) := ⟨_, rfl⟩
  have sq : wq.heap.size = w14.heap.size + 1 := by rw [ewq]; simp
  have hBq : Below w14.heap.size w14 wq := by rw [ewq]; exact alloc_below _ _
  have hB16 : Below wq.heap.size wq w16 := by rw [ew16]; exact alloc_below _ _
  have hba : Blk wq w14.heap.size [.int .i64 0] 3 := by rw [ewq]; exact Blk.new w14 [.int .i64 0] _ rfl
  have hbf : Blk w16 (w14.heap.size + 1) [.bool true] 4 := by rw [ew16]; exact Blk.new wq [.bool true] _ sq.symm
  have hba := hba.below hB16 hba.lt
  rw [← ewq, ← ew16]
  clear ewq ew16
  have HB14_16 := Lib.hid (hBq.trans (hB16.mono (by omega)))
  have HA16 := Lib.hid (HA14.out.trans (HB14_16.out.mono (by omega)))
  have hz16 := HA16.out.size
  have hl14 : b8 < w14.heap.size := Hb8_14.out.lt
  have hl14' : b10 < w14.heap.size := Hb10_14.out.lt
  have hbfl := hbf.lt
  have Hb8_16 := Lib.hid (Hb8_14.out.below HB14_16.out hl14)
  have Hb10_16 := Lib.hid (Hb10_14.out.below HB14_16.out hl14')
  have HJ0 : Hid (AskJ (w14.heap.size + 1) w14.heap.size w.heap.size lo hi ac (some ⟨0, 0, none⟩) rc.length cc cv2 l 0 w16 ∨ AskJ (w14.heap.size + 1) w14.heap.size w.heap.size lo hi ac av rc.length cc cv2 l 0 w16) := Lib.hid (.inr ⟨hbf, hba, Hbr.out.below HA16.out (by omega), Sl.below Hl.out rowE_loc HA16.out (by omega), by omega⟩)
  have HJ1 : Hid (AskJ (w14.heap.size + 1) w14.heap.size w.heap.size lo hi ac av rc.length cc cv2 l 0 w16) := Lib.hid ⟨hbf, hba, Hbr.out.below HA16.out (by omega), Sl.below Hl.out rowE_loc HA16.out (by omega), by omega⟩
  clear HJ0 hba hbf hBq hB16 sq
  obtain ⟨oc3, hoc3⟩ : ∃ oc, okL (selErr rc l keep3) rc = oc := ⟨_, rfl⟩
  obtain ⟨ol3, hol3⟩ : ∃ ol, okL (selErr rc l keep3) (relCanon (keepL keep3 l)) = ol := ⟨_, rfl⟩
  have Hos3 : Hid (∀ x ∈ ol3, ∀ a ∈ x, a.s.length ≤ 9223372036854775807) := Lib.hid (fun x hx => Hrs.out x (keepL_mem (relCanon_mem (okL_mem (by rw [hol3]; exact hx)))))
  obtain ⟨c0, c1⟩ := (Hby.out.below HA16.out hby).cells.c2
  simp only [Nat.zero_add] at c1
  go_wp2_with fail
  refine Select_any wa.heap.size w1.heap.size wa.heap.size w1.heap.size rc _ _ l _ 36 #[.pointer (some ⟨w14.heap.size + 1, 0, none⟩), .pointer (some ⟨w14.heap.size, 0, none⟩), .pointer (some ⟨w.heap.size, 0, none⟩)] keep3 (fun b => b = w14.heap.size + 1 ∨ b = w14.heap.size) (AskJ (w14.heap.size + 1) w14.heap.size w.heap.size lo hi ac av rc.length cc cv2 l) w16 (Sl.below Hyc.out Strs.loc HA16.out (by omega)) (by omega) (Sl.below Hyl.out rowE_loc HA16.out (by omega)) (by omega)
    (enters_of Try.func36 (by kernel_rfl) rfl) (fun b h => by rcases h with rfl | rfl <;> omega) (fun b h => by rcases h with rfl | rfl <;> omega) (fun b h => by rcases h with rfl | rfl <;> omega) HJ1.out (fun k u1 u2 hJ hB hz => hJ.below hB (by omega) (by omega) (by omega) (by omega))
    (fun k hk zlo zv w' R' hJ hz1 hz2 hoz hR' => Picks1_any (w14.heap.size + 1) w14.heap.size w.heap.size lo hi zlo k ac av rc.length cc cv2 l hk (by omega) zv w' hJ hoz (by omega) (by omega) (by omega) (by omega) (by omega) (by omega) (by omega) (by omega) (by omega) Hrs.out R' hR') _ (fun w17 cv3 lv3 hs3 hO3 hJ3 hT3 hR3 => ?_)
  rw [hoc3] at hT3
  rw [hol3] at hR3
  obtain ⟨p3, q3, rfl⟩ := Own.slice hT3
  obtain ⟨p4, q4, e4⟩ := Own.slice hR3.own
  rw [hR3.len] at e4
  subst e4
  have hA3 := HA16.out.trans (hO3.below hz16 (fun b h => by rcases h with rfl | rfl <;> omega))
  have HA17 := Lib.hid hA3
  have hz17 := hA3.size
  have hz1617 := hO3.size
  have HT3 := Lib.hid hT3
  have HR3 := Lib.hid hR3
  have hb8 := hO3.blk Hb8_16.out (by omega)
  have hb10 := hO3.blk Hb10_16.out (by omega)
  have Hb8_17 := Lib.hid hb8
  have Hb10_17 := Lib.hid hb10
  obtain ⟨na, hna⟩ : ∃ na : Nat, (if mayRel rc l then l.length else 0) = na := ⟨_, rfl⟩
  rw [hna] at hJ3
  have Hna : Hid ((if mayRel rc l then l.length else 0) = na) := Lib.hid hna
  clear hna
  have Hbf_17 := Lib.hid hJ3.fine
  have Hba_17 := Lib.hid hJ3.asked
  have f0 := hb8.free 0
  have f1 := hb8.free 1
  clear c0 c1
  obtain ⟨c0, c1⟩ := (hb8).cells.c2
  simp only [Nat.zero_add] at c1
  clear hA3 hT3 hR3 hb8 hb10 hJ3 hO3 HJ1
  go_upto_region 15 with fail
  have hown := own2Set HT3.out HR3.out Hb8_17.out (by decide) (by decide) (by decide) (.slice p3 oc3.length q3) (.slice p4 ol3.length q4)
  have hb10' := blk2Set Hb10_17.out (show b10 ≠ b8 by omega) (.slice p3 oc3.length q3) (.slice p4 ol3.length q4)
  have hbf' := blk2Set Hbf_17.out (show w14.heap.size + 1 ≠ b8 by omega) (.slice p3 oc3.length q3) (.slice p4 ol3.length q4)
  have hba' := blk2Set Hba_17.out (show w14.heap.size ≠ b8 by omega) (.slice p3 oc3.length q3) (.slice p4 ol3.length q4)
  have hA' := HA17.out.trans (below2Set w17 h2b8 (.slice p3 oc3.length q3) (.slice p4 ol3.length q4))
  have hzz := size2Set w17 b8 (.slice p3 oc3.length q3) (.slice p4 ol3.length q4)
  clear c0 c1 f0 f1 HT3 HR3 Hb8_17 Hb10_17 Hbf_17 Hba_17
  generalize (w17.setCell ⟨b8, 0, none⟩ (.slice p3 oc3.length q3)).setCell ⟨b8, 1, none⟩ (.slice p4 ol3.length q4) = w18 at *
  obtain ⟨hT2, hR2, hb82⟩ := hown
  have HT18 := Lib.hid hT2
  have HR18 := Lib.hid hR2
  have Hb8_18 := Lib.hid hb82
  have Hb10_18 := Lib.hid hb10'
  have Hbf_18 := Lib.hid hbf'
  have Hba_18 := Lib.hid hba'
  have HA18 := Lib.hid hA'
  have hz18 := hA'.size
  clear hT2 hR2 hb82 hb10' hbf' hba' hA'
  obtain ⟨c0, c1⟩ := (Hbr.out.below HA18.out (by omega)).cells.c2
  simp only [Nat.zero_add] at c1
  go_wp2_with fail
  refine ref_any _ _ _ _ _ _ w18 _ (fun w19 hB => ?_)
  have HB18_19 := Lib.hid hB
  have hz19 := hB.size
  have HA19 := Lib.hid (HA18.out.trans (hB.mono (by omega)))
  clear hB c0 c1
  go_wp2_with fail
  refine refMay_any lo hi lc hc rc _ _ l _ w19 (Sl.below Hrc.out Strs.loc HA19.out (by omega)) (by omega) (Sl.below Hl.out rowE_loc HA19.out (by omega)) (by omega) Hrs.out _ (fun w20 hB => ?_)
  have HB18_20 := Lib.hid (HB18_19.out.trans (hB.mono (by omega)))
  have hz20 := hB.size
  have HA20 := Lib.hid (HA19.out.trans (hB.mono (by omega)))
  clear hB
  obtain ⟨mb, hmb⟩ : ∃ mb, mayRel rc l = mb := ⟨_, rfl⟩
  rw [hmb]
  have Hmb : Hid (mayRel rc l = mb) := Lib.hid hmb
  clear hmb
  obtain ⟨c0, c1⟩ := (Hbr.out.below HA20.out (by omega)).cells.c2
  simp only [Nat.zero_add] at c1
  go_upto_region 18 with fail
  go_loopw [15, 83] (fun t15 t83 wr => ∃ (k : Nat), k ≤ l.length ∧ t83 = .int .i64 k ∧ LS w20.heap.size lo hi wr t15 (keepTo keep3 l k) ∧ Below w20.heap.size w20 wr) (fun _ t83 _ => l.length - (intOf t83).toNat)
  case atStart => exact ⟨0, Nat.zero_le _, rfl, LS.nil _ _ _ _, Below.refl _ _⟩
  case round =>
    obtain ⟨k, hk, rfl, ho, hB⟩ := hrel
    obtain ⟨wo, ewo⟩ : ∃ x, x = wr := ⟨_, rfl⟩
    subst ewo
    have Ho := Lib.hid ho
    have HBo := Lib.hid hB
    have HAo := Lib.hid (HA20.out.trans (hB.mono (by omega)))
    have hzo := hB.size
    have kk0 : (0 : Int) ≤ (k : Int) := by omega
    obtain ⟨po, co, hpo⟩ := ho.slice
    clear ho hB c0 c1
    obtain ⟨c0, c1⟩ := (Hbr.out.below HAo.out (by omega)).cells.c2
    simp only [Nat.zero_add] at c1
    by_cases hlt : k < l.length
    · have kkl : (k : Int) < (l.length : Int) := by omega
      obtain ⟨b4, o4, rfl, hb4, hrow4⟩ := Rws.at (Sl.below Hl.out rowE_loc HAo.out (by omega)) (by omega) (by omega)
      obtain ⟨p2, c2, g2, r2⟩ := hrow4 k hlt
      have g0 := g2 wo (Below.refl _ _)
      have R2 := Lib.hid r2
      have Hst := Lib.hid (keepTo_succ keep3 l k hlt)
      have Hkl : Hid ((keepTo keep3 l k).length ≤ k) := Lib.hid (keepTo_len _ _ _)
      have hks : (((k : Int) + 1) % 3 != 0) = keep3 k := by
        unfold keep3
        rw [Bool.eq_iff_iff]
        simp only [bne_iff_ne, ne_eq]
        omega
      clear hrow4 g2 r2
      generalize l[k] = xb at *
      subst hpo
      cases hk3 : keep3 k
      · rw [hk3] at hks
        have Hn : Hid (keepTo keep3 l (k + 1) = keepTo keep3 l k) := Lib.hid (by rw [Hst.out, hk3]; simp)
        clear hk3
        go_wp2_with fail
        go_roundw
        case rel => exact ⟨k + 1, by omega, by go_num, by rw [Hn.out]; exact Ho.out, HBo.out⟩
        case measure => simp [intOf]; omega
      · rw [hk3] at hks
        have Hn : Hid (keepTo keep3 l (k + 1) = keepTo keep3 l k ++ [xb]) := Lib.hid (by rw [Hst.out, hk3]; simp)
        obtain ⟨v3, w3', hr3, ho3, ha3⟩ := LS.snoc Ho.out (by omega) p2 c2 xb R2.out rfl (by have := Hkl.out; omega) (by omega)
        have HO3 := Lib.hid ho3
        have HB3 := Lib.hid (HBo.out.trans (ha3.below (B := w20.heap.size) (by omega) (fun q e => (LS.lt Ho.out q e).1)))
        clear ho3 ha3 hk3
        go_wp2_with (at_builtin; refine AtApp.of ?_)
        refine AtApp.go hr3 rfl rfl rfl rfl ?_
        go_wp2_with fail
        go_roundw
        case rel => exact ⟨k + 1, by omega, by go_num, by rw [Hn.out]; exact HO3.out, HB3.out⟩
        case measure => simp [intOf]; omega
    · obtain rfl : k = l.length := by omega
      have llt : ¬ ((l.length : Nat) : Int) < (l.length : Int) := by omega
      have HLS : Hid (LS w20.heap.size lo hi wo _ (keepL keep3 l)) := Lib.hid Ho.out
      have hpo' : _ = Value.slice po (keepL keep3 l).length co := hpo
      have hkl2 : (keepL keep3 l).length ≤ 150 := Nat.le_trans (keepL_len _ _) hll
      have hB18o := HB18_20.out.trans (HBo.out.mono (by omega))
      have HTo := Lib.hid (Own.kept HT18.out hB18o)
      have HRo := Lib.hid (OwnR.kept HR18.out hB18o)
      have Hb8_o := Lib.hid (Hb8_18.out.below hB18o Hb8_18.out.lt)
      have Hb10_o := Lib.hid (Hb10_18.out.below hB18o Hb10_18.out.lt)
      have Hbf_o := Lib.hid (Hbf_18.out.below hB18o Hbf_18.out.lt)
      have Hba_o := Lib.hid (Hba_18.out.below hB18o Hba_18.out.lt)
      have hb10l := Hb10_18.out.lt
      clear hpo Ho hB18o HT18 HR18 Hb8_18 Hb10_18 Hbf_18 Hba_18
      subst hpo'
      have f0 := Hb10_o.out.free 0
      have f1 := Hb10_o.out.free 1
      obtain ⟨d0, d1⟩ := Hb10_o.out.cells.c2
      simp only [Nat.zero_add] at d1
      go_upto_region 24 with fail
      have hown := own2Set HTo.out HRo.out Hb10_o.out (by decide) (by decide) (by decide) (.slice none 0 0) (.slice none 0 0)
      have hb8' := blk2Set Hb8_o.out (show b8 ≠ b10 by omega) (.slice none 0 0) (.slice none 0 0)
      have hbf' := blk2Set Hbf_o.out (show w14.heap.size + 1 ≠ b10 by omega) (.slice none 0 0) (.slice none 0 0)
      have hba' := blk2Set Hba_o.out (show w14.heap.size ≠ b10 by omega) (.slice none 0 0) (.slice none 0 0)
      have hA' := HAo.out.trans (below2Set wo h2b10 (.slice none 0 0) (.slice none 0 0))
      have hzz := size2Set wo b10 (.slice none 0 0) (.slice none 0 0)
      have hLS' := LS.same HLS.out (w' := (wo.setCell ⟨b10, 0, none⟩ (.slice none 0 0)).setCell ⟨b10, 1, none⟩ (.slice none 0 0)) (fun g e => (Below.heap_setCell _ _ _ _ (by have := (LS.lt HLS.out g e).1; show g ≠ b10; omega)).trans (Below.heap_setCell _ _ _ _ (by have := (LS.lt HLS.out g e).1; show g ≠ b10; omega))) (agree2Set wo (b := b10) (.inr (by omega)) (.slice none 0 0) (.slice none 0 0))
      clear c0 c1 d0 d1 f0 f1 HTo HRo Hb8_o Hb10_o Hbf_o Hba_o HLS HAo HBo
      generalize (wo.setCell ⟨b10, 0, none⟩ (.slice none 0 0)).setCell ⟨b10, 1, none⟩ (.slice none 0 0) = w21 at *
      obtain ⟨hT2, hR2, hb102⟩ := hown
      have HT21 := Lib.hid hT2
      have HR21 := Lib.hid hR2
      have Hb8_21 := Lib.hid hb8'
      have Hb10_21 := Lib.hid hb102
      have Hbf_21 := Lib.hid hbf'
      have Hba_21 := Lib.hid hba'
      have HA21 := Lib.hid hA'
      have HLS21 := Lib.hid hLS'
      have hz21 := hA'.size
      clear hT2 hR2 hb102 hb8' hbf' hba' hA' hLS'
      cases mb
      · have he : selErr rc l keep3 = 2 := by unfold selErr; rw [Hmb.out]; rfl
        obtain rfl : na = 0 := by rw [← Hna.out, Hmb.out]; rfl
        obtain rfl : oc3 = [] := by rw [← hoc3, he]; rfl
        obtain rfl : ol3 = [] := by rw [← hol3, he]; rfl
        rw [he]
        clear he hoc3 hol3
        obtain ⟨c0, c1⟩ := (Hb8_21.out).cells.c2
        simp only [Nat.zero_add] at c1
        obtain ⟨d0, d1⟩ := (Hb10_21.out).cells.c2
        simp only [Nat.zero_add] at d1
        go_wp2_with fail
        refine toldO_any w2.heap.size 0 0 0 0 _ _ _ _ _ _ _ _ w21 (by omega) (Own.lower HT21.out (by omega)) (Sl.nil _ _ _ _ _) (OwnR.lower HR21.out (by omega)) (Sl.nil _ _ _ _ _) (by omega) (by omega) Hos3.out _ (fun w24 hB8 hO8 => ?_)
        have hbf24 := hO8.blk Hbf_21.out (TB.not HT21.out HR21.out Hbf_21.out (by decide) (by decide))
        have hba24 := hO8.blk Hba_21.out (TB.not HT21.out HR21.out Hba_21.out (by decide) (by decide))
        have HA24 := Lib.hid (HA21.out.trans hB8)
        have hz24 := HA24.out.size
        have Hby24 := Lib.hid (Hby.out.below HA24.out hby)
        have Hbr24 := Lib.hid (Hbr.out.below HA24.out hr2)
        have k0 := hbf24.cells.c1
        have k1 := hba24.cells.c1
        have hlby : w1.heap.size < w24.heap.size := by omega
        have hlbr : w.heap.size < w24.heap.size := by omega
        clear hB8 hO8 c0 c1 d0 d1 hbf24 hba24
        obtain ⟨c0, c1⟩ := (Hbr24.out).cells.c2
        simp only [Nat.zero_add] at c1
        go_upto_region 28 with fail
        clear k0 k1 c0 c1
        have hS0 : Below w24.heap.size w24 w24.drew := (Below.refl _ _).drew
        refine wp_region_held_drew (S := fun w' => Below w24.heap.size w24 w') (by kernel_rfl) hS0 (fun hHeld => ?_)
        refine wpAnyH_take (i := 0) (v := .agg #[.slice ayc rc.length cyc, .slice ayl l.length cyl]) rfl (by kernel_rfl) (by kernel_rfl) (by kernel_rfl) (fun _ _ _ h => h) (Or.inl ⟨by rfl, ?_⟩) hHeld ?_
        · intro w' hSw; have kx := (Hby24.out.below hSw hlby).cells.runVar (P := Try.prog) (t := 34) (fun _ => by kernel_rfl) (fun _ => by kernel_rfl); obtain ⟨z0, z1⟩ := (Hby24.out.below hSw hlby).cells.c2; simp only [Nat.zero_add] at z1; go_simp
        try simp only [Act.put, List.getElem_toArray, List.getElem_cons_succ, List.getElem_cons_zero, List.setIfInBounds_toArray, List.set_cons_zero, List.set_cons_succ]
        refine wpAnyH_take (i := 2) (v := .bool false) rfl (by kernel_rfl) (by kernel_rfl) (by kernel_rfl) (fun _ _ _ h => h) (Or.inl ⟨by rfl, ?_⟩) hHeld ?_
        · intro w' hSw; go_simp
        try simp only [Act.put, List.getElem_toArray, List.getElem_cons_succ, List.getElem_cons_zero, List.setIfInBounds_toArray, List.set_cons_zero, List.set_cons_succ]
        refine wpAnyH_ready (rs := [1]) (by kernel_rfl) (by simp) ?_
        refine allCall (f := 38) (args := #[.agg #[.slice ayc rc.length cyc, .slice ayl l.length cyl]]) rfl (by kernel_rfl) (by kernel_rfl) ?_ AllReadyH.nil
        refine May_any wa.heap.size w1.heap.size wa.heap.size w1.heap.size rc _ _ l _ w24.drew (Sl.below (Sl.below Hyc.out Strs.loc HA24.out (by omega)) Strs.loc hHeld (by omega)) (by have := hHeld.size; omega) (Sl.below (Sl.below Hyl.out rowE_loc HA24.out (by omega)) rowE_loc hHeld (by omega)) (by have := hHeld.size; omega) _ (fun wq1 hB => ?_)
        rw [Hmb.out]
        refine ⟨_, rfl, hHeld.trans (hB.mono hHeld.size), ?_⟩
        have hHeld2 := hHeld.trans (hB.mono hHeld.size)
        clear hHeld
        have hHeld := hHeld2
        clear hHeld2
        clear hB
        try simp only [Act.put, List.getElem_toArray, List.getElem_cons_succ, List.getElem_cons_zero, List.setIfInBounds_toArray, List.set_cons_zero, List.set_cons_succ]
        refine wpAnyH_take (i := 3) (v := .bool true) rfl (by kernel_rfl) (by kernel_rfl) (by kernel_rfl) (fun _ _ _ h => h) (Or.inl ⟨by rfl, ?_⟩) hHeld ?_
        · intro w' hSw; go_simp
        try simp only [Act.put, List.getElem_toArray, List.getElem_cons_succ, List.getElem_cons_zero, List.setIfInBounds_toArray, List.set_cons_zero, List.set_cons_succ]
        refine wpAnyH_take (i := 4) (v := .bool true) rfl (by kernel_rfl) (by kernel_rfl) (by kernel_rfl) (fun _ _ _ h => h) (Or.inl ⟨by rfl, ?_⟩) hHeld ?_
        · intro w' hSw; go_simp
        try simp only [Act.put, List.getElem_toArray, List.getElem_cons_succ, List.getElem_cons_zero, List.setIfInBounds_toArray, List.set_cons_zero, List.set_cons_succ]
        refine wpAnyH_take (i := 5) (v := .agg #[.slice ayc rc.length cyc, .slice ayl l.length cyl]) rfl (by kernel_rfl) (by kernel_rfl) (by kernel_rfl) (fun _ _ _ h => h) (Or.inl ⟨by rfl, ?_⟩) hHeld ?_
        · intro w' hSw; have kx := (Hby24.out.below hSw hlby).cells.runVar (P := Try.prog) (t := 34) (fun _ => by kernel_rfl) (fun _ => by kernel_rfl); obtain ⟨z0, z1⟩ := (Hby24.out.below hSw hlby).cells.c2; simp only [Nat.zero_add] at z1; go_simp
        try simp only [Act.put, List.getElem_toArray, List.getElem_cons_succ, List.getElem_cons_zero, List.setIfInBounds_toArray, List.set_cons_zero, List.set_cons_succ]
        refine wpAnyH_take (i := 6) (v := .slice ax x.length cx) rfl (by kernel_rfl) (by kernel_rfl) (by kernel_rfl) (fun _ _ _ h => h) (Or.inl ⟨by rfl, ?_⟩) hHeld ?_
        · intro w' hSw; go_simp
        try simp only [Act.put, List.getElem_toArray, List.getElem_cons_succ, List.getElem_cons_zero, List.setIfInBounds_toArray, List.set_cons_zero, List.set_cons_succ]
        refine wpAnyH_take (i := 8) (v := .agg #[.slice ac rc.length cc, .slice av l.length cv2]) rfl (by kernel_rfl) (by kernel_rfl) (by kernel_rfl) (fun _ _ _ h => h) (Or.inl ⟨by rfl, ?_⟩) hHeld ?_
        · intro w' hSw; have kx := (Hbr24.out.below hSw hlbr).cells.runVar (P := Try.prog) (t := 34) (fun _ => by kernel_rfl) (fun _ => by kernel_rfl); obtain ⟨z0, z1⟩ := (Hbr24.out.below hSw hlbr).cells.c2; simp only [Nat.zero_add] at z1; go_simp
        try simp only [Act.put, List.getElem_toArray, List.getElem_cons_succ, List.getElem_cons_zero, List.setIfInBounds_toArray, List.set_cons_zero, List.set_cons_succ]
        refine wpAnyH_take (i := 10) (v := .slice ax x.length cx) rfl (by kernel_rfl) (by kernel_rfl) (by kernel_rfl) (fun _ _ _ h => h) (Or.inl ⟨by rfl, ?_⟩) hHeld ?_
        · intro w' hSw; go_simp
        try simp only [Act.put, List.getElem_toArray, List.getElem_cons_succ, List.getElem_cons_zero, List.setIfInBounds_toArray, List.set_cons_zero, List.set_cons_succ]
        refine wpAnyH_ready (rs := [7]) (by kernel_rfl) (by simp) ?_
        refine allCall (f := 39) (args := #[.agg #[.slice ayc rc.length cyc, .slice ayl l.length cyl], .slice ax x.length cx]) rfl (by kernel_rfl) (by kernel_rfl) ?_ AllReadyH.nil
        refine Has_any wa.heap.size w1.heap.size wa.heap.size w1.heap.size l4 h4 rc _ _ l _ x _ wq1 (Sl.below (Sl.below Hyc.out Strs.loc HA24.out (by omega)) Strs.loc hHeld (by omega)) (by have := hHeld.size; omega) (Sl.below (Sl.below Hyl.out rowE_loc HA24.out (by omega)) rowE_loc hHeld (by omega)) (by have := hHeld.size; omega) (Sl.below (Sl.below Hx.out Row1.loc HA24.out (by omega)) Row1.loc hHeld (by omega)) (by have := hHeld.size; omega) _ (fun wq2 hB => ?_)
        refine ⟨_, rfl, hHeld.trans (hB.mono hHeld.size), ?_⟩
        have hHeld2 := hHeld.trans (hB.mono hHeld.size)
        clear hHeld
        have hHeld := hHeld2
        clear hHeld2
        clear hB
        try simp only [Act.put, List.getElem_toArray, List.getElem_cons_succ, List.getElem_cons_zero, List.setIfInBounds_toArray, List.set_cons_zero, List.set_cons_succ]
        refine wpAnyH_ready (rs := [9]) (by kernel_rfl) (by simp) ?_
        refine allCall (f := 32) (args := #[.agg #[.slice ac rc.length cc, .slice av l.length cv2]]) rfl (by kernel_rfl) (by kernel_rfl) ?_ AllReadyH.nil
        refine ref_any _ _ _ _ _ _ wq2 _ (fun wq3 hB => ?_)
        refine ⟨_, rfl, hHeld.trans (hB.mono hHeld.size), ?_⟩
        have hHeld2 := hHeld.trans (hB.mono hHeld.size)
        clear hHeld
        have hHeld := hHeld2
        clear hHeld2
        clear hB
        try simp only [Act.put, List.getElem_toArray, List.getElem_cons_succ, List.getElem_cons_zero, List.setIfInBounds_toArray, List.set_cons_zero, List.set_cons_succ]
        refine wpAnyH_ready (rs := [11]) (by kernel_rfl) (by simp) ?_
        refine allCall (f := 40) (args := #[.agg #[.slice ac rc.length cc, .slice av l.length cv2], .slice ax x.length cx]) rfl (by kernel_rfl) (by kernel_rfl) ?_ AllReadyH.nil
        refine refHas_any lo hi lc hc l4 h4 rc _ _ l _ x _ wq3 (Sl.below (Sl.below Hrc.out Strs.loc HA24.out (by omega)) Strs.loc hHeld (by omega)) (by have := hHeld.size; omega) (Sl.below (Sl.below Hl.out rowE_loc HA24.out (by omega)) rowE_loc hHeld (by omega)) (by have := hHeld.size; omega) (Sl.below (Sl.below Hx.out Row1.loc HA24.out (by omega)) Row1.loc hHeld (by omega)) (by have := hHeld.size; omega) Hrs.out Hxs.out _ (fun wq4 hB => ?_)
        refine ⟨_, rfl, hHeld.trans (hB.mono hHeld.size), ?_⟩
        have hHeld2 := hHeld.trans (hB.mono hHeld.size)
        clear hHeld
        have hHeld := hHeld2
        clear hHeld2
        clear hB
        try simp only [Act.put, List.getElem_toArray, List.getElem_cons_succ, List.getElem_cons_zero, List.setIfInBounds_toArray, List.set_cons_zero, List.set_cons_succ]
        refine wpAnyH_take (i := 12) (v := .bool true) rfl (by kernel_rfl) (by kernel_rfl) (by kernel_rfl) (fun _ _ _ h => h) (Or.inl ⟨by rfl, ?_⟩) hHeld ?_
        · intro w' hSw; go_simp
        try simp only [Act.put, List.getElem_toArray, List.getElem_cons_succ, List.getElem_cons_zero, List.setIfInBounds_toArray, List.set_cons_zero, List.set_cons_succ]
        refine wpAnyH_take (i := 13) (v := .bool true) rfl (by kernel_rfl) (by kernel_rfl) (by kernel_rfl) (fun _ _ _ h => h) (Or.inl ⟨by rfl, ?_⟩) hHeld ?_
        · intro w' hSw; go_simp
        try simp only [Act.put, List.getElem_toArray, List.getElem_cons_succ, List.getElem_cons_zero, List.setIfInBounds_toArray, List.set_cons_zero, List.set_cons_succ]
        refine wpAnyH_take (i := 14) (v := .bool true) rfl (by kernel_rfl) (by kernel_rfl) (by kernel_rfl) (fun _ _ _ h => h) (Or.inl ⟨by rfl, ?_⟩) hHeld ?_
        · intro w' hSw; go_simp
        try simp only [Act.put, List.getElem_toArray, List.getElem_cons_succ, List.getElem_cons_zero, List.setIfInBounds_toArray, List.set_cons_zero, List.set_cons_succ]
        refine wpAnyH_take (i := 15) (v := .agg #[.slice ayc rc.length cyc, .slice ayl l.length cyl]) rfl (by kernel_rfl) (by kernel_rfl) (by kernel_rfl) (fun _ _ _ h => h) (Or.inl ⟨by rfl, ?_⟩) hHeld ?_
        · intro w' hSw; have kx := (Hby24.out.below hSw hlby).cells.runVar (P := Try.prog) (t := 34) (fun _ => by kernel_rfl) (fun _ => by kernel_rfl); obtain ⟨z0, z1⟩ := (Hby24.out.below hSw hlby).cells.c2; simp only [Nat.zero_add] at z1; go_simp
        try simp only [Act.put, List.getElem_toArray, List.getElem_cons_succ, List.getElem_cons_zero, List.setIfInBounds_toArray, List.set_cons_zero, List.set_cons_succ]
        refine wpAnyH_take (i := 16) (v := .agg #[.slice ac rc.length cc, .slice av l.length cv2]) rfl (by kernel_rfl) (by kernel_rfl) (by kernel_rfl) (fun _ _ _ h => h) (Or.inl ⟨by rfl, ?_⟩) hHeld ?_
        · intro w' hSw; have kx := (Hbr24.out.below hSw hlbr).cells.runVar (P := Try.prog) (t := 34) (fun _ => by kernel_rfl) (fun _ => by kernel_rfl); obtain ⟨z0, z1⟩ := (Hbr24.out.below hSw hlbr).cells.c2; simp only [Nat.zero_add] at z1; go_simp
        try simp only [Act.put, List.getElem_toArray, List.getElem_cons_succ, List.getElem_cons_zero, List.setIfInBounds_toArray, List.set_cons_zero, List.set_cons_succ]
        refine wpAnyH_ready (rs := [17]) (by kernel_rfl) (by simp) ?_
        refine allCall (f := 29) (args := #[.agg #[.slice ayc rc.length cyc, .slice ayl l.length cyl], .agg #[.slice ac rc.length cc, .slice av l.length cv2]]) rfl (by kernel_rfl) (by kernel_rfl) ?_ AllReadyH.nil
        refine lawSame_any wa.heap.size w1.heap.size lo hi wa.heap.size w1.heap.size lc hc rc l _ _ _ _ wq4 (Sl.below (Sl.below Hyc.out Strs.loc HA24.out (by omega)) Strs.loc hHeld (by omega)) (Sl.below (Sl.below Hrc.out Strs.loc HA24.out (by omega)) Strs.loc hHeld (by omega)) (Sl.below (Sl.below Hyl.out rowE_loc HA24.out (by omega)) rowE_loc hHeld (by omega)) (Sl.below (Sl.below Hl.out rowE_loc HA24.out (by omega)) rowE_loc hHeld (by omega)) (by have := hHeld.size; omega) (by have := hHeld.size; omega) (by have := hHeld.size; omega) (by have := hHeld.size; omega) Hrs.out _ (fun wq5 hB => ?_)
        refine ⟨_, rfl, hHeld.trans (hB.mono hHeld.size), ?_⟩
        have hHeld2 := hHeld.trans (hB.mono hHeld.size)
        clear hHeld
        have hHeld := hHeld2
        clear hHeld2
        clear hB
        try simp only [Act.put, List.getElem_toArray, List.getElem_cons_succ, List.getElem_cons_zero, List.setIfInBounds_toArray, List.set_cons_zero, List.set_cons_succ]
        refine wpAnyH_take (i := 18) (v := .bool true) rfl (by kernel_rfl) (by kernel_rfl) (by kernel_rfl) (fun _ _ _ h => h) (Or.inl ⟨by rfl, ?_⟩) hHeld ?_
        · intro w' hSw; go_simp
        try simp only [Act.put, List.getElem_toArray, List.getElem_cons_succ, List.getElem_cons_zero, List.setIfInBounds_toArray, List.set_cons_zero, List.set_cons_succ]
        refine wpAnyH_take (i := 19) (v := .bool true) rfl (by kernel_rfl) (by kernel_rfl) (by kernel_rfl) (fun _ _ _ h => h) (Or.inl ⟨by rfl, ?_⟩) hHeld ?_
        · intro w' hSw; go_simp
        try simp only [Act.put, List.getElem_toArray, List.getElem_cons_succ, List.getElem_cons_zero, List.setIfInBounds_toArray, List.set_cons_zero, List.set_cons_succ]
        have HH2 := Lib.hid hHeld
        refine wpAnyH_done (by kernel_rfl) ?_ _
        clear hHeld
        have hr := HR.out wq5 (HBw2.out.trans ((HA24.out.trans (HH2.out.mono (by omega))).mono (by omega)))
        go_wp2_with fail
        first | exact hr | exact fin hr rfl
      · have he : ofErr rc (keepL keep3 l) = selErr rc l keep3 := by rw [of_made Hmb.out (fun x hx => keepL_mem hx)]; unfold selErr; rw [Hmb.out]; rfl
        obtain rfl : na = l.length := by rw [← Hna.out, Hmb.out]; rfl
        obtain ⟨c0, c1⟩ := (Hbr.out.below HA21.out (by omega)).cells.c2
        simp only [Nat.zero_add] at c1
        go_wp2_with fail
        refine refOfP_any 0 w21.heap.size lc hc rc _ _ (keepL keep3 l) _ w21 (Sl.below Hrc.out Strs.loc HA21.out (by omega)) (by omega) (LS.rws HLS21.out (by omega)) (Nat.le_refl _) (by omega) (fun x hx => by have := Hxl.out x (keepL_mem hx); omega) (fun x hx => Hrs.out x (keepL_mem hx)) _ (fun w22 cv6 lv6 hB6 hT6 hR6 => ?_)
        rw [he, hoc3] at hT6
        rw [he, hol3] at hR6
        rw [he]
        obtain ⟨p5, q5, rfl, -, -, -, -⟩ := hT6.form
        obtain ⟨p6, q6, rfl, -, -, -, -⟩ := hR6.form
        have hz22 := hB6.size
        have HA22 := Lib.hid (HA21.out.trans (hB6.mono (by omega)))
        have HT4 := Lib.hid (Own.kept HT21.out hB6)
        have HR4 := Lib.hid (OwnR.kept HR21.out hB6)
        have hb10l2 := Hb10_21.out.lt
        have Hb8_22 := Lib.hid (Hb8_21.out.below hB6 Hb8_21.out.lt)
        have Hb10_22 := Lib.hid (Hb10_21.out.below hB6 Hb10_21.out.lt)
        have Hbf_22 := Lib.hid (Hbf_21.out.below hB6 Hbf_21.out.lt)
        have Hba_22 := Lib.hid (Hba_21.out.below hB6 Hba_21.out.lt)
        have HT6 := Lib.hid hT6
        have HR6 := Lib.hid hR6
        have f0 := Hb10_22.out.free 0
        have f1 := Hb10_22.out.free 1
        clear c0 c1 hB6 hT6 hR6 hoc3 hol3 he
        obtain ⟨c0, c1⟩ := (Hb10_22.out).cells.c2
        simp only [Nat.zero_add] at c1
        go_upto_region 26 with fail
        have hown := own2Set HT4.out HR4.out Hb10_22.out (by decide) (by decide) (by decide) (.slice p5 oc3.length q5) (.slice p6 ol3.length q6)
        have hb8' := blk2Set Hb8_22.out (show b8 ≠ b10 by omega) (.slice p5 oc3.length q5) (.slice p6 ol3.length q6)
        have hbf' := blk2Set Hbf_22.out (show w14.heap.size + 1 ≠ b10 by omega) (.slice p5 oc3.length q5) (.slice p6 ol3.length q6)
        have hba' := blk2Set Hba_22.out (show w14.heap.size ≠ b10 by omega) (.slice p5 oc3.length q5) (.slice p6 ol3.length q6)
        have hA' := HA22.out.trans (below2Set w22 h2b10 (.slice p5 oc3.length q5) (.slice p6 ol3.length q6))
        have hTb := Sl.agree HT6.out Strs.loc (agree2Set w22 (b := b10) (.inr (by omega)) (.slice p5 oc3.length q5) (.slice p6 ol3.length q6))
        have hRb := Sl.agree HR6.out rowE_loc (agree2Set w22 (b := b10) (.inl (by omega)) (.slice p5 oc3.length q5) (.slice p6 ol3.length q6))
        have hzz2 := size2Set w22 b10 (.slice p5 oc3.length q5) (.slice p6 ol3.length q6)
        clear c0 c1 f0 f1 HT4 HR4 HT6 HR6 Hb8_22 Hb10_22 Hbf_22 Hba_22
        generalize (w22.setCell ⟨b10, 0, none⟩ (.slice p5 oc3.length q5)).setCell ⟨b10, 1, none⟩ (.slice p6 ol3.length q6) = w23 at *
        obtain ⟨hT5, hR5, hb105⟩ := hown
        have HT23 := Lib.hid hT5
        have HR23 := Lib.hid hR5
        have HTb := Lib.hid hTb
        have HRb := Lib.hid hRb
        have Hb8_23 := Lib.hid hb8'
        have Hb10_23 := Lib.hid hb105
        have Hbf_23 := Lib.hid hbf'
        have Hba_23 := Lib.hid hba'
        have HA23 := Lib.hid hA'
        have hz23 := hA'.size
        clear hT5 hR5 hb105 hb8' hbf' hba' hA' hTb hRb
        obtain ⟨c0, c1⟩ := (Hb8_23.out).cells.c2
        simp only [Nat.zero_add] at c1
        obtain ⟨d0, d1⟩ := (Hb10_23.out).cells.c2
        simp only [Nat.zero_add] at d1
        go_wp2_with fail
        refine toldO_any w2.heap.size w21.heap.size w22.heap.size lc hc _ _ _ _ _ _ _ _ w23 (by omega) (Own.lower HT23.out (by omega)) HTb.out (OwnR.lower HR23.out (by omega)) HRb.out (by omega) (by omega) Hos3.out _ (fun w24 hB8 hO8 => ?_)
        have hbf24 := hO8.blk Hbf_23.out (TB.not HT23.out HR23.out Hbf_23.out (by decide) (by decide))
        have hba24 := hO8.blk Hba_23.out (TB.not HT23.out HR23.out Hba_23.out (by decide) (by decide))
        have HA24 := Lib.hid (HA23.out.trans hB8)
        have hz24 := HA24.out.size
        have Hby24 := Lib.hid (Hby.out.below HA24.out hby)
        have Hbr24 := Lib.hid (Hbr.out.below HA24.out hr2)
        have k0 := hbf24.cells.c1
        have k1 := hba24.cells.c1
        have hlby : w1.heap.size < w24.heap.size := by omega
        have hlbr : w.heap.size < w24.heap.size := by omega
        clear hB8 hO8 c0 c1 d0 d1 hbf24 hba24
        obtain ⟨c0, c1⟩ := (Hbr24.out).cells.c2
        simp only [Nat.zero_add] at c1
        go_upto_region 28 with fail
        clear k0 k1 c0 c1
        have hS0 : Below w24.heap.size w24 w24.drew := (Below.refl _ _).drew
        refine wp_region_held_drew (S := fun w' => Below w24.heap.size w24 w') (by kernel_rfl) hS0 (fun hHeld => ?_)
        refine wpAnyH_take (i := 0) (v := .agg #[.slice ayc rc.length cyc, .slice ayl l.length cyl]) rfl (by kernel_rfl) (by kernel_rfl) (by kernel_rfl) (fun _ _ _ h => h) (Or.inl ⟨by rfl, ?_⟩) hHeld ?_
        · intro w' hSw; have kx := (Hby24.out.below hSw hlby).cells.runVar (P := Try.prog) (t := 34) (fun _ => by kernel_rfl) (fun _ => by kernel_rfl); obtain ⟨z0, z1⟩ := (Hby24.out.below hSw hlby).cells.c2; simp only [Nat.zero_add] at z1; go_simp
        try simp only [Act.put, List.getElem_toArray, List.getElem_cons_succ, List.getElem_cons_zero, List.setIfInBounds_toArray, List.set_cons_zero, List.set_cons_succ]
        refine wpAnyH_take (i := 2) (v := .bool true) rfl (by kernel_rfl) (by kernel_rfl) (by kernel_rfl) (fun _ _ _ h => h) (Or.inl ⟨by rfl, ?_⟩) hHeld ?_
        · intro w' hSw; go_simp
        try simp only [Act.put, List.getElem_toArray, List.getElem_cons_succ, List.getElem_cons_zero, List.setIfInBounds_toArray, List.set_cons_zero, List.set_cons_succ]
        refine wpAnyH_ready (rs := [1]) (by kernel_rfl) (by simp) ?_
        refine allCall (f := 38) (args := #[.agg #[.slice ayc rc.length cyc, .slice ayl l.length cyl]]) rfl (by kernel_rfl) (by kernel_rfl) ?_ AllReadyH.nil
        refine May_any wa.heap.size w1.heap.size wa.heap.size w1.heap.size rc _ _ l _ w24.drew (Sl.below (Sl.below Hyc.out Strs.loc HA24.out (by omega)) Strs.loc hHeld (by omega)) (by have := hHeld.size; omega) (Sl.below (Sl.below Hyl.out rowE_loc HA24.out (by omega)) rowE_loc hHeld (by omega)) (by have := hHeld.size; omega) _ (fun wq1 hB => ?_)
        rw [Hmb.out]
        refine ⟨_, rfl, hHeld.trans (hB.mono hHeld.size), ?_⟩
        have hHeld2 := hHeld.trans (hB.mono hHeld.size)
        clear hHeld
        have hHeld := hHeld2
        clear hHeld2
        clear hB
        try simp only [Act.put, List.getElem_toArray, List.getElem_cons_succ, List.getElem_cons_zero, List.setIfInBounds_toArray, List.set_cons_zero, List.set_cons_succ]
        refine wpAnyH_take (i := 3) (v := .bool true) rfl (by kernel_rfl) (by kernel_rfl) (by kernel_rfl) (fun _ _ _ h => h) (Or.inl ⟨by rfl, ?_⟩) hHeld ?_
        · intro w' hSw; go_simp
        try simp only [Act.put, List.getElem_toArray, List.getElem_cons_succ, List.getElem_cons_zero, List.setIfInBounds_toArray, List.set_cons_zero, List.set_cons_succ]
        refine wpAnyH_take (i := 4) (v := .bool true) rfl (by kernel_rfl) (by kernel_rfl) (by kernel_rfl) (fun _ _ _ h => h) (Or.inl ⟨by rfl, ?_⟩) hHeld ?_
        · intro w' hSw; go_simp
        try simp only [Act.put, List.getElem_toArray, List.getElem_cons_succ, List.getElem_cons_zero, List.setIfInBounds_toArray, List.set_cons_zero, List.set_cons_succ]
        refine wpAnyH_take (i := 5) (v := .agg #[.slice ayc rc.length cyc, .slice ayl l.length cyl]) rfl (by kernel_rfl) (by kernel_rfl) (by kernel_rfl) (fun _ _ _ h => h) (Or.inl ⟨by rfl, ?_⟩) hHeld ?_
        · intro w' hSw; have kx := (Hby24.out.below hSw hlby).cells.runVar (P := Try.prog) (t := 34) (fun _ => by kernel_rfl) (fun _ => by kernel_rfl); obtain ⟨z0, z1⟩ := (Hby24.out.below hSw hlby).cells.c2; simp only [Nat.zero_add] at z1; go_simp
        try simp only [Act.put, List.getElem_toArray, List.getElem_cons_succ, List.getElem_cons_zero, List.setIfInBounds_toArray, List.set_cons_zero, List.set_cons_succ]
        refine wpAnyH_take (i := 6) (v := .slice ax x.length cx) rfl (by kernel_rfl) (by kernel_rfl) (by kernel_rfl) (fun _ _ _ h => h) (Or.inl ⟨by rfl, ?_⟩) hHeld ?_
        · intro w' hSw; go_simp
        try simp only [Act.put, List.getElem_toArray, List.getElem_cons_succ, List.getElem_cons_zero, List.setIfInBounds_toArray, List.set_cons_zero, List.set_cons_succ]
        refine wpAnyH_take (i := 8) (v := .agg #[.slice ac rc.length cc, .slice av l.length cv2]) rfl (by kernel_rfl) (by kernel_rfl) (by kernel_rfl) (fun _ _ _ h => h) (Or.inl ⟨by rfl, ?_⟩) hHeld ?_
        · intro w' hSw; have kx := (Hbr24.out.below hSw hlbr).cells.runVar (P := Try.prog) (t := 34) (fun _ => by kernel_rfl) (fun _ => by kernel_rfl); obtain ⟨z0, z1⟩ := (Hbr24.out.below hSw hlbr).cells.c2; simp only [Nat.zero_add] at z1; go_simp
        try simp only [Act.put, List.getElem_toArray, List.getElem_cons_succ, List.getElem_cons_zero, List.setIfInBounds_toArray, List.set_cons_zero, List.set_cons_succ]
        refine wpAnyH_take (i := 10) (v := .slice ax x.length cx) rfl (by kernel_rfl) (by kernel_rfl) (by kernel_rfl) (fun _ _ _ h => h) (Or.inl ⟨by rfl, ?_⟩) hHeld ?_
        · intro w' hSw; go_simp
        try simp only [Act.put, List.getElem_toArray, List.getElem_cons_succ, List.getElem_cons_zero, List.setIfInBounds_toArray, List.set_cons_zero, List.set_cons_succ]
        refine wpAnyH_ready (rs := [7]) (by kernel_rfl) (by simp) ?_
        refine allCall (f := 39) (args := #[.agg #[.slice ayc rc.length cyc, .slice ayl l.length cyl], .slice ax x.length cx]) rfl (by kernel_rfl) (by kernel_rfl) ?_ AllReadyH.nil
        refine Has_any wa.heap.size w1.heap.size wa.heap.size w1.heap.size l4 h4 rc _ _ l _ x _ wq1 (Sl.below (Sl.below Hyc.out Strs.loc HA24.out (by omega)) Strs.loc hHeld (by omega)) (by have := hHeld.size; omega) (Sl.below (Sl.below Hyl.out rowE_loc HA24.out (by omega)) rowE_loc hHeld (by omega)) (by have := hHeld.size; omega) (Sl.below (Sl.below Hx.out Row1.loc HA24.out (by omega)) Row1.loc hHeld (by omega)) (by have := hHeld.size; omega) _ (fun wq2 hB => ?_)
        refine ⟨_, rfl, hHeld.trans (hB.mono hHeld.size), ?_⟩
        have hHeld2 := hHeld.trans (hB.mono hHeld.size)
        clear hHeld
        have hHeld := hHeld2
        clear hHeld2
        clear hB
        try simp only [Act.put, List.getElem_toArray, List.getElem_cons_succ, List.getElem_cons_zero, List.setIfInBounds_toArray, List.set_cons_zero, List.set_cons_succ]
        refine wpAnyH_ready (rs := [9]) (by kernel_rfl) (by simp) ?_
        refine allCall (f := 32) (args := #[.agg #[.slice ac rc.length cc, .slice av l.length cv2]]) rfl (by kernel_rfl) (by kernel_rfl) ?_ AllReadyH.nil
        refine ref_any _ _ _ _ _ _ wq2 _ (fun wq3 hB => ?_)
        refine ⟨_, rfl, hHeld.trans (hB.mono hHeld.size), ?_⟩
        have hHeld2 := hHeld.trans (hB.mono hHeld.size)
        clear hHeld
        have hHeld := hHeld2
        clear hHeld2
        clear hB
        try simp only [Act.put, List.getElem_toArray, List.getElem_cons_succ, List.getElem_cons_zero, List.setIfInBounds_toArray, List.set_cons_zero, List.set_cons_succ]
        refine wpAnyH_ready (rs := [11]) (by kernel_rfl) (by simp) ?_
        refine allCall (f := 40) (args := #[.agg #[.slice ac rc.length cc, .slice av l.length cv2], .slice ax x.length cx]) rfl (by kernel_rfl) (by kernel_rfl) ?_ AllReadyH.nil
        refine refHas_any lo hi lc hc l4 h4 rc _ _ l _ x _ wq3 (Sl.below (Sl.below Hrc.out Strs.loc HA24.out (by omega)) Strs.loc hHeld (by omega)) (by have := hHeld.size; omega) (Sl.below (Sl.below Hl.out rowE_loc HA24.out (by omega)) rowE_loc hHeld (by omega)) (by have := hHeld.size; omega) (Sl.below (Sl.below Hx.out Row1.loc HA24.out (by omega)) Row1.loc hHeld (by omega)) (by have := hHeld.size; omega) Hrs.out Hxs.out _ (fun wq4 hB => ?_)
        refine ⟨_, rfl, hHeld.trans (hB.mono hHeld.size), ?_⟩
        have hHeld2 := hHeld.trans (hB.mono hHeld.size)
        clear hHeld
        have hHeld := hHeld2
        clear hHeld2
        clear hB
        try simp only [Act.put, List.getElem_toArray, List.getElem_cons_succ, List.getElem_cons_zero, List.setIfInBounds_toArray, List.set_cons_zero, List.set_cons_succ]
        refine wpAnyH_take (i := 12) (v := .bool true) rfl (by kernel_rfl) (by kernel_rfl) (by kernel_rfl) (fun _ _ _ h => h) (Or.inl ⟨by rfl, ?_⟩) hHeld ?_
        · intro w' hSw; go_simp
        try simp only [Act.put, List.getElem_toArray, List.getElem_cons_succ, List.getElem_cons_zero, List.setIfInBounds_toArray, List.set_cons_zero, List.set_cons_succ]
        refine wpAnyH_take (i := 13) (v := .bool true) rfl (by kernel_rfl) (by kernel_rfl) (by kernel_rfl) (fun _ _ _ h => h) (Or.inl ⟨by rfl, ?_⟩) hHeld ?_
        · intro w' hSw; go_simp
        try simp only [Act.put, List.getElem_toArray, List.getElem_cons_succ, List.getElem_cons_zero, List.setIfInBounds_toArray, List.set_cons_zero, List.set_cons_succ]
        refine wpAnyH_take (i := 14) (v := .bool true) rfl (by kernel_rfl) (by kernel_rfl) (by kernel_rfl) (fun _ _ _ h => h) (Or.inl ⟨by rfl, ?_⟩) hHeld ?_
        · intro w' hSw; go_simp
        try simp only [Act.put, List.getElem_toArray, List.getElem_cons_succ, List.getElem_cons_zero, List.setIfInBounds_toArray, List.set_cons_zero, List.set_cons_succ]
        refine wpAnyH_take (i := 15) (v := .agg #[.slice ayc rc.length cyc, .slice ayl l.length cyl]) rfl (by kernel_rfl) (by kernel_rfl) (by kernel_rfl) (fun _ _ _ h => h) (Or.inl ⟨by rfl, ?_⟩) hHeld ?_
        · intro w' hSw; have kx := (Hby24.out.below hSw hlby).cells.runVar (P := Try.prog) (t := 34) (fun _ => by kernel_rfl) (fun _ => by kernel_rfl); obtain ⟨z0, z1⟩ := (Hby24.out.below hSw hlby).cells.c2; simp only [Nat.zero_add] at z1; go_simp
        try simp only [Act.put, List.getElem_toArray, List.getElem_cons_succ, List.getElem_cons_zero, List.setIfInBounds_toArray, List.set_cons_zero, List.set_cons_succ]
        refine wpAnyH_take (i := 16) (v := .agg #[.slice ac rc.length cc, .slice av l.length cv2]) rfl (by kernel_rfl) (by kernel_rfl) (by kernel_rfl) (fun _ _ _ h => h) (Or.inl ⟨by rfl, ?_⟩) hHeld ?_
        · intro w' hSw; have kx := (Hbr24.out.below hSw hlbr).cells.runVar (P := Try.prog) (t := 34) (fun _ => by kernel_rfl) (fun _ => by kernel_rfl); obtain ⟨z0, z1⟩ := (Hbr24.out.below hSw hlbr).cells.c2; simp only [Nat.zero_add] at z1; go_simp
        try simp only [Act.put, List.getElem_toArray, List.getElem_cons_succ, List.getElem_cons_zero, List.setIfInBounds_toArray, List.set_cons_zero, List.set_cons_succ]
        refine wpAnyH_ready (rs := [17]) (by kernel_rfl) (by simp) ?_
        refine allCall (f := 29) (args := #[.agg #[.slice ayc rc.length cyc, .slice ayl l.length cyl], .agg #[.slice ac rc.length cc, .slice av l.length cv2]]) rfl (by kernel_rfl) (by kernel_rfl) ?_ AllReadyH.nil
        refine lawSame_any wa.heap.size w1.heap.size lo hi wa.heap.size w1.heap.size lc hc rc l _ _ _ _ wq4 (Sl.below (Sl.below Hyc.out Strs.loc HA24.out (by omega)) Strs.loc hHeld (by omega)) (Sl.below (Sl.below Hrc.out Strs.loc HA24.out (by omega)) Strs.loc hHeld (by omega)) (Sl.below (Sl.below Hyl.out rowE_loc HA24.out (by omega)) rowE_loc hHeld (by omega)) (Sl.below (Sl.below Hl.out rowE_loc HA24.out (by omega)) rowE_loc hHeld (by omega)) (by have := hHeld.size; omega) (by have := hHeld.size; omega) (by have := hHeld.size; omega) (by have := hHeld.size; omega) Hrs.out _ (fun wq5 hB => ?_)
        refine ⟨_, rfl, hHeld.trans (hB.mono hHeld.size), ?_⟩
        have hHeld2 := hHeld.trans (hB.mono hHeld.size)
        clear hHeld
        have hHeld := hHeld2
        clear hHeld2
        clear hB
        try simp only [Act.put, List.getElem_toArray, List.getElem_cons_succ, List.getElem_cons_zero, List.setIfInBounds_toArray, List.set_cons_zero, List.set_cons_succ]
        refine wpAnyH_take (i := 18) (v := .bool true) rfl (by kernel_rfl) (by kernel_rfl) (by kernel_rfl) (fun _ _ _ h => h) (Or.inl ⟨by rfl, ?_⟩) hHeld ?_
        · intro w' hSw; go_simp
        try simp only [Act.put, List.getElem_toArray, List.getElem_cons_succ, List.getElem_cons_zero, List.setIfInBounds_toArray, List.set_cons_zero, List.set_cons_succ]
        refine wpAnyH_take (i := 19) (v := .bool true) rfl (by kernel_rfl) (by kernel_rfl) (by kernel_rfl) (fun _ _ _ h => h) (Or.inl ⟨by rfl, ?_⟩) hHeld ?_
        · intro w' hSw; go_simp
        try simp only [Act.put, List.getElem_toArray, List.getElem_cons_succ, List.getElem_cons_zero, List.setIfInBounds_toArray, List.set_cons_zero, List.set_cons_succ]
        have HH2 := Lib.hid hHeld
        refine wpAnyH_done (by kernel_rfl) ?_ _
        clear hHeld
        have hr := HR.out wq5 (HBw2.out.trans ((HA24.out.trans (HH2.out.mono (by omega))).mono (by omega)))
        go_wp2_with fail
        first | exact hr | exact fin hr rfl
end Go.Proofs.Ytpncblagjkbemaa
end
