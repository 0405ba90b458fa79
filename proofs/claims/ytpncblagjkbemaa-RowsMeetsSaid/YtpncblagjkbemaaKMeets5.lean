/- Texts that the proof of Meets stands on, part 5. -/
import Derived.Test.YtpncblagjkbemaaKMeets4
/- The document's Without. (Printed by meo.py, merf.py.) -/
section
namespace Go.Proofs.Ytpncblagjkbemaa
open Go.RowKit
set_option linter.unusedVariables false
set_option linter.unusedSimpArgs false
attribute [local go_sem ↓] Go.wp_at_zero Go.wp_at_succ

set_option maxRecDepth 100000 in
set_option maxHeartbeats 4000000 in
theorem refWithout_any (lca hca lra hra lcb hcb lrb hrb : Nat) (ac bc : List S) (pa pb : Option Addr) (ca cb : Nat) (la lb : List (List V)) (lva lvb : Value) (w : World) (ha : Strs lca hca w (.slice pa ac.length ca) ac) (hha : hca ≤ w.heap.size) (hla : Rws lra hra w lva la) (hhla : hra ≤ w.heap.size) (hb : Strs lcb hcb w (.slice pb bc.length cb) bc) (hhb : hcb ≤ w.heap.size) (hlb : Rws lrb hrb w lvb lb) (hhlb : hrb ≤ w.heap.size) (hras : ∀ x ∈ la, ∀ a ∈ x, a.s.length ≤ 9223372036854775807) (hrbs : ∀ x ∈ lb, ∀ a ∈ x, a.s.length ≤ 9223372036854775807) (hll : la.length ≤ 1000000) (hllb : lb.length ≤ 1000000) (R : Ending → World → Prop)
    (hR : ∀ w' cv2 lv2, Below w.heap.size w w' → Strs lca hca w' cv2 (okL (woErr ac la bc lb) ac) → Rws w.heap.size w'.heap.size w' lv2 (okL (woErr ac la bc lb) (relCanon (withoutL ac la bc lb))) → R (.returned (.tuple #[.agg #[cv2, lv2], .int .i64 (woErr ac la bc lb)])) w') :
    Calls Try.prog 46 #[.agg #[.slice pa ac.length ca, lva], .agg #[.slice pb bc.length cb, lvb]] w R := by
  have HR := Lib.hid hR
  have Ha := Lib.hid ha
  have Hb := Lib.hid hb
  have Hla := Lib.hid hla
  have Hlb := Lib.hid hlb
  have Hras := Lib.hid hras
  have Hrbs := Lib.hid hrbs
  obtain ⟨av, av2, rfl, -, -, -, -⟩ := hla.form
  obtain ⟨bv, bv2, rfl, -, -, -, -⟩ := hlb.form
  have hal63 := ha.len
  have hbl63 := hb.len
  clear hR ha hb hla hlb hras hrbs
  obtain ⟨wa, ewa⟩ : ∃ x, x = w.alloc (.cells #[.slice pa ac.length ca, .slice av la.length av2] 53) := ⟨_, rfl⟩
  obtain ⟨wb, ewb⟩ : ∃ x, x = wa.alloc (.cells #[.slice pb bc.length cb, .slice bv lb.length bv2] 53) := ⟨_, rfl⟩
  obtain ⟨w2, ew2⟩ : ∃ x, x = wb.alloc (.cells #[.slice none 0 0, .slice none 0 0] 53) := ⟨_, rfl⟩
  have sa : wa.heap.size = w.heap.size + 1 := by rw [ewa]; simp
  have sb : wb.heap.size = w.heap.size + 1 + 1 := by rw [ewb]; simp [sa]
  have hBa : Below w.heap.size w wa := by rw [ewa]; exact alloc_below _ _
  have hBb : Below wa.heap.size wa wb := by rw [ewb]; exact alloc_below _ _
  have hBc : Below wb.heap.size wb w2 := by rw [ew2]; exact alloc_below _ _
  have hb1 : Blk wa w.heap.size [.slice pa ac.length ca, .slice av la.length av2] 53 := by rw [ewa]; exact Blk.new w [.slice pa ac.length ca, .slice av la.length av2] _ rfl
  have hb2 : Blk wb (w.heap.size + 1) [.slice pb bc.length cb, .slice bv lb.length bv2] 53 := by rw [ewb]; exact Blk.new wa [.slice pb bc.length cb, .slice bv lb.length bv2] _ sa.symm
  have hb3 : Blk w2 (w.heap.size + 1 + 1) [.slice none 0 0, .slice none 0 0] 53 := by rw [ew2]; exact Blk.new wb [.slice none 0 0, .slice none 0 0] _ sb.symm
  have hb1 := (hb1.below hBb hb1.lt).below hBc (by omega)
  have hb2 := hb2.below hBc hb2.lt
  have hB := hBa.trans ((hBb.mono hBa.size).trans (hBc.mono (by omega)))
  go_enter Try.func46, Try.ntmps46
  go_upto_region 1 with fail
  rw [← ewa, ← ewb, ← ew2]
  clear ewa ewb ew2 hBa hBb hBc sa sb
  have HB := Lib.hid hB
  have Hb1 := Lib.hid hb1
  have Hb2 := Lib.hid hb2
  have Hb3 := Lib.hid hb3
  have hz2 := hB.size
  have hl3 := hb3.lt
  clear hb1 hb2 hb3 hB
  obtain ⟨c0, c1⟩ := Hb1.out.cells.c2
  simp only [Nat.zero_add] at c1
  go_wp2_with fail
  refine refMay_any lra hra lca hca ac _ _ la _ w2 (Sl.below Ha.out Strs.loc HB.out hha) (by omega) (Sl.below Hla.out rowE_loc HB.out hhla) (by omega) Hras.out _ (fun w5 hB5 => ?_)
  have hz5 := hB5.size
  have HA5 := Lib.hid hB5
  have HW5 := Lib.hid (HB.out.trans (hB5.mono hz2))
  clear hB5 c0 c1
  obtain ⟨c0, c1⟩ := (Hb2.out.below HA5.out (by omega)).cells.c2
  simp only [Nat.zero_add] at c1
  go_wp2_with fail
  refine refMay_any lrb hrb lcb hcb bc _ _ lb _ w5 (Sl.below Hb.out Strs.loc HW5.out hhb) (by omega) (Sl.below Hlb.out rowE_loc HW5.out hhlb) (by omega) Hrbs.out _ (fun w6 hB6 => ?_)
  have hz6 := hB6.size
  have HA6 := Lib.hid (HA5.out.trans (hB6.mono (by omega)))
  have HW6 := Lib.hid (HB.out.trans (HA6.out.mono hz2))
  clear hB6 c0 c1
  have Hd1 := Lib.hid (Hb1.out.below HA6.out (by omega))
  have Hd2 := Lib.hid (Hb2.out.below HA6.out (by omega))
  have Hd3 := Lib.hid (Hb3.out.below HA6.out hl3)
  have hld : w.heap.size + 1 + 1 < w6.heap.size := by omega
  obtain ⟨c0, c1⟩ := Hd1.out.cells.c2
  obtain ⟨d0, d1⟩ := Hd2.out.cells.c2
  simp only [Nat.zero_add] at c1 d1
  cases hm : mayRel ac la
  · obtain ⟨e0, e1⟩ := Hd3.out.cells.c2
    have f0 := Hd3.out.free 0
    have f1 := Hd3.out.free 1
    simp only [Nat.zero_add] at e1
    have he : woErr ac la bc lb = 2 := by unfold woErr; rw [hm]; rfl
    obtain ⟨t1, t2, t3⟩ := refTail (pc := none) (pr := none) (nc := 0) (nr := 0) (qc := 0) (qr := 0) Hd3.out
    have hr := HR.out _ _ _ ((HW6.out.setCell (p := ⟨w.heap.size + 1 + 1, 0, none⟩) (by show w.heap.size ≤ w.heap.size + 1 + 1; omega) (.slice none 0 0)).setCell (p := ⟨w.heap.size + 1 + 1, 1, none⟩) (by show w.heap.size ≤ w.heap.size + 1 + 1; omega) (.slice none 0 0)) (by rw [he]; exact Sl.nil _ _ _ _ _) (by rw [he]; exact Sl.nil _ _ _ _ _)
    rw [he] at hr
    have Hr := Lib.hid hr
    have Ht := Lib.hid t1
    clear hr t1 t2 t3 he hm
    go_wp2_with fail
    exact ret_cell_tmp rfl rfl Ht.out rfl rfl Hr.out
  have Hm := Lib.hid hm
  clear hm
  cases hmb : mayRel bc lb
  · obtain ⟨e0, e1⟩ := Hd3.out.cells.c2
    have f0 := Hd3.out.free 0
    have f1 := Hd3.out.free 1
    simp only [Nat.zero_add] at e1
    have he : woErr ac la bc lb = 2 := by unfold woErr; rw [Hm.out, hmb]; rfl
    obtain ⟨t1, t2, t3⟩ := refTail (pc := none) (pr := none) (nc := 0) (nr := 0) (qc := 0) (qr := 0) Hd3.out
    have hr := HR.out _ _ _ ((HW6.out.setCell (p := ⟨w.heap.size + 1 + 1, 0, none⟩) (by show w.heap.size ≤ w.heap.size + 1 + 1; omega) (.slice none 0 0)).setCell (p := ⟨w.heap.size + 1 + 1, 1, none⟩) (by show w.heap.size ≤ w.heap.size + 1 + 1; omega) (.slice none 0 0)) (by rw [he]; exact Sl.nil _ _ _ _ _) (by rw [he]; exact Sl.nil _ _ _ _ _)
    rw [he] at hr
    have Hr := Lib.hid hr
    have Ht := Lib.hid t1
    clear hr t1 t2 t3 he hmb
    go_wp2_with fail
    exact ret_cell_tmp rfl rfl Ht.out rfl rfl Hr.out
  have Hmb := Lib.hid hmb
  clear hmb
  have hmca := (may_many Hm.out).2
  have hmcb := (may_many Hmb.out).2
  have he : woErr ac la bc lb = madeErr ac (withoutL ac la bc lb) := by unfold woErr; rw [Hm.out, Hmb.out]; rfl
  rw [he] at HR
  clear he
  have Hag : Hid (∀ x y, refAgreeB ac bc x y = agreeR ac bc x y) := Lib.hid (fun x y => agree_same x y (may_once Hm.out))
  go_wp2_with fail
  go_loopw [8, 9] (fun t8 t9 wr => ∃ (i : Nat), i ≤ la.length ∧ t9 = .int .i64 i ∧ LR w6.heap.size 0 wr t8 ((la.take i).filter fun x => !(lb.any fun y => agreeR ac bc x y)) ∧ Below w6.heap.size w6 wr) (fun _ t9 _ => la.length - (intOf t9).toNat)
  case atStart => exact ⟨0, Nat.zero_le _, rfl, LR.nil _ _ _, Below.refl _ _⟩
  case round =>
    obtain ⟨i, hi, rfl, ho, hB⟩ := hrel
    obtain ⟨wo, ewo⟩ : ∃ x, x = wr := ⟨_, rfl⟩
    subst ewo
    have Ho := Lib.hid ho
    have HBo := Lib.hid hB
    have HBw := Lib.hid (HW6.out.trans (hB.mono (by omega)))
    have hzo := hB.size
    have Hbo1 := Lib.hid (Hd1.out.below hB (by omega))
    have Hbo2 := Lib.hid (Hd2.out.below hB (by omega))
    have ii0 : (0 : Int) ≤ (i : Int) := by omega
    obtain ⟨po, co, hpo⟩ := ho.slice
    have hfl : ((la.take i).filter fun x => !(lb.any fun y => agreeR ac bc x y)).length ≤ i := Nat.le_trans (List.length_filter_le _ _) (by rw [List.length_take]; omega)
    clear ho hB c0 c1 d0 d1
    obtain ⟨c0, c1⟩ := Hbo1.out.cells.c2
    obtain ⟨d0, d1⟩ := Hbo2.out.cells.c2
    simp only [Nat.zero_add] at c1 d1
    by_cases hlt : i < la.length
    · have iil : (i : Int) < (la.length : Int) := by omega
      obtain ⟨b3, o3, rfl, hb3, hrow3⟩ := Rws.at (Sl.below Hla.out rowE_loc HBw.out hhla) (by omega) (by omega)
      obtain ⟨p1, q1, g1, r1⟩ := hrow3 i hlt
      have G1 := Lib.hid g1
      have R1 := Lib.hid r1
      have Hst : Hid (((la.take (i + 1)).filter fun x => !(lb.any fun y => agreeR ac bc x y)) = ((la.take i).filter fun x => !(lb.any fun y => agreeR ac bc x y)) ++ (if (!(lb.any fun y => agreeR ac bc la[i] y)) = true then [la[i]] else [])) := Lib.hid (by rw [List.take_succ_eq_append_getElem hlt, List.filter_append, List.filter_cons, List.filter_nil])
      have Hxl : Hid (la[i].length = ac.length) := Lib.hid (may_len Hm.out _ (List.getElem_mem hlt))
      have Hxs : Hid (∀ a ∈ la[i], a.s.length ≤ 9223372036854775807) := Lib.hid (Hras.out _ (List.getElem_mem hlt))
      clear hrow3 g1 r1
      generalize la[i] = xa at *
      generalize hX : ((la.take i).filter fun x => !(lb.any fun y => agreeR ac bc x y)) = X at *
      subst hpo
      go_wp2_with fail
      go_loopw [10, 11] (fun t10 t11 wk => ∃ (k : Nat), k ≤ lb.length ∧ t11 = .int .i64 k ∧ t10 = .bool ((lb.take k).any fun y => agreeR ac bc xa y) ∧ Below wo.heap.size wo wk) (fun _ t11 _ => lb.length - (intOf t11).toNat)
      case atStart => exact ⟨0, Nat.zero_le _, rfl, rfl, Below.refl _ _⟩
      case round =>
        obtain ⟨k, hk, rfl, rfl, hB⟩ := hrel
        obtain ⟨wk, ewk⟩ : ∃ x, x = wr := ⟨_, rfl⟩
        subst ewk
        have HBk := Lib.hid hB
        have HBwk := Lib.hid (HBw.out.trans (hB.mono (by omega)))
        have hzk := hB.size
        have Hbk1 := Lib.hid (Hbo1.out.below hB (by omega))
        have Hbk2 := Lib.hid (Hbo2.out.below hB (by omega))
        have kk0 : (0 : Int) ≤ (k : Int) := by omega
        clear hB c0 c1 d0 d1
        obtain ⟨c0, c1⟩ := Hbk1.out.cells.c2
        obtain ⟨d0, d1⟩ := Hbk2.out.cells.c2
        simp only [Nat.zero_add] at c1 d1
        by_cases hlk : k < lb.length
        · have kkl : (k : Int) < (lb.length : Int) := by omega
          obtain ⟨b4, o4, rfl, hb4, hrow4⟩ := Rws.at (Sl.below Hlb.out rowE_loc HBwk.out hhlb) (by omega) (by omega)
          obtain ⟨p2, q2, g2, r2⟩ := hrow4 k hlk
          have G2 := Lib.hid g2
          have R2 := Lib.hid r2
          have Hsk := Lib.hid (any_take_succ lb (fun y => agreeR ac bc xa y) k hlk)
          have Hyl : Hid (lb[k].length = bc.length) := Lib.hid (may_len Hmb.out _ (List.getElem_mem hlk))
          have Hys : Hid (∀ a ∈ lb[k], a.s.length ≤ 9223372036854775807) := Lib.hid (Hrbs.out _ (List.getElem_mem hlk))
          have Hmet := Lib.hid (Hag.out xa lb[k])
          clear hrow4 g2 r2
          generalize lb[k] = xb at *
          go_upto_region 13 with fail
          have hS0 : Below wk.heap.size wk wk.drew := (Below.refl _ _).drew
          refine wp_region_held_drew (S := fun w' => Below wk.heap.size wk w') (by kernel_rfl) hS0 (fun hHeld => ?_)
          refine wpAnyH_take (i := 0) (v := .agg #[.slice pa ac.length ca, .slice (some ⟨b3, o3, none⟩) la.length av2]) rfl (by kernel_rfl) (by kernel_rfl) (by kernel_rfl) (fun _ _ _ h => h) (Or.inl ⟨by rfl, ?_⟩) hHeld ?_
          · intro w' hSw; obtain ⟨z0, z1⟩ := (Hbk1.out.below hSw (by omega)).cells.c2; simp only [Nat.zero_add] at z1; go_simp
          try simp only [Act.put, List.getElem_toArray, List.getElem_cons_succ, List.getElem_cons_zero, List.setIfInBounds_toArray, List.set_cons_zero, List.set_cons_succ]
          refine wpAnyH_take (i := 1) (v := .agg #[.slice pb bc.length cb, .slice (some ⟨b4, o4, none⟩) lb.length bv2]) rfl (by kernel_rfl) (by kernel_rfl) (by kernel_rfl) (fun _ _ _ h => h) (Or.inl ⟨by rfl, ?_⟩) hHeld ?_
          · intro w' hSw; obtain ⟨z0, z1⟩ := (Hbk2.out.below hSw (by omega)).cells.c2; simp only [Nat.zero_add] at z1; go_simp
          try simp only [Act.put, List.getElem_toArray, List.getElem_cons_succ, List.getElem_cons_zero, List.setIfInBounds_toArray, List.set_cons_zero, List.set_cons_succ]
          refine wpAnyH_take (i := 2) (v := .pointer (some ⟨w.heap.size, 1, none⟩)) rfl (by kernel_rfl) (by kernel_rfl) (by kernel_rfl) (fun _ _ _ h => h) (Or.inl ⟨by rfl, ?_⟩) hHeld ?_
          · intro w' hSw; go_simp
          try simp only [Act.put, List.getElem_toArray, List.getElem_cons_succ, List.getElem_cons_zero, List.setIfInBounds_toArray, List.set_cons_zero, List.set_cons_succ]
          refine wpAnyH_take (i := 3) (v := .slice (some ⟨b3, o3, none⟩) la.length av2) rfl (by kernel_rfl) (by kernel_rfl) (by kernel_rfl) (fun _ _ _ h => h) (Or.inl ⟨by rfl, ?_⟩) hHeld ?_
          · intro w' hSw; obtain ⟨z0, z1⟩ := (Hbk1.out.below hSw (by omega)).cells.c2; simp only [Nat.zero_add] at z1; go_simp
          try simp only [Act.put, List.getElem_toArray, List.getElem_cons_succ, List.getElem_cons_zero, List.setIfInBounds_toArray, List.set_cons_zero, List.set_cons_succ]
          refine wpAnyH_take (i := 4) (v := .int .i64 ((i : Int))) rfl (by kernel_rfl) (by kernel_rfl) (by kernel_rfl) (fun _ _ _ h => h) (Or.inl ⟨by rfl, ?_⟩) hHeld ?_
          · intro w' hSw; go_simp
          try simp only [Act.put, List.getElem_toArray, List.getElem_cons_succ, List.getElem_cons_zero, List.setIfInBounds_toArray, List.set_cons_zero, List.set_cons_succ]
          refine wpAnyH_take (i := 5) (v := .pointer (some ⟨b3, o3 + i, none⟩)) rfl (by kernel_rfl) (by kernel_rfl) (by kernel_rfl) (fun _ _ _ h => h) (Or.inl ⟨by rfl, ?_⟩) hHeld ?_
          · intro w' hSw; go_simp
          try simp only [Act.put, List.getElem_toArray, List.getElem_cons_succ, List.getElem_cons_zero, List.setIfInBounds_toArray, List.set_cons_zero, List.set_cons_succ]
          refine wpAnyH_take (i := 6) (v := .slice p1 xa.length q1) rfl (by kernel_rfl) (by kernel_rfl) (by kernel_rfl) (fun _ _ _ h => h) (Or.inl ⟨by rfl, ?_⟩) hHeld ?_
          · intro w' hSw; have kx := G1.out w' (HBk.out.trans (hSw.mono (by omega))); go_simp
          try simp only [Act.put, List.getElem_toArray, List.getElem_cons_succ, List.getElem_cons_zero, List.setIfInBounds_toArray, List.set_cons_zero, List.set_cons_succ]
          refine wpAnyH_take (i := 7) (v := .pointer (some ⟨w.heap.size + 1, 1, none⟩)) rfl (by kernel_rfl) (by kernel_rfl) (by kernel_rfl) (fun _ _ _ h => h) (Or.inl ⟨by rfl, ?_⟩) hHeld ?_
          · intro w' hSw; go_simp
          try simp only [Act.put, List.getElem_toArray, List.getElem_cons_succ, List.getElem_cons_zero, List.setIfInBounds_toArray, List.set_cons_zero, List.set_cons_succ]
          refine wpAnyH_take (i := 8) (v := .slice (some ⟨b4, o4, none⟩) lb.length bv2) rfl (by kernel_rfl) (by kernel_rfl) (by kernel_rfl) (fun _ _ _ h => h) (Or.inl ⟨by rfl, ?_⟩) hHeld ?_
          · intro w' hSw; obtain ⟨z0, z1⟩ := (Hbk2.out.below hSw (by omega)).cells.c2; simp only [Nat.zero_add] at z1; go_simp
          try simp only [Act.put, List.getElem_toArray, List.getElem_cons_succ, List.getElem_cons_zero, List.setIfInBounds_toArray, List.set_cons_zero, List.set_cons_succ]
          refine wpAnyH_take (i := 9) (v := .int .i64 ((k : Int))) rfl (by kernel_rfl) (by kernel_rfl) (by kernel_rfl) (fun _ _ _ h => h) (Or.inl ⟨by rfl, ?_⟩) hHeld ?_
          · intro w' hSw; go_simp
          try simp only [Act.put, List.getElem_toArray, List.getElem_cons_succ, List.getElem_cons_zero, List.setIfInBounds_toArray, List.set_cons_zero, List.set_cons_succ]
          refine wpAnyH_take (i := 10) (v := .pointer (some ⟨b4, o4 + k, none⟩)) rfl (by kernel_rfl) (by kernel_rfl) (by kernel_rfl) (fun _ _ _ h => h) (Or.inl ⟨by rfl, ?_⟩) hHeld ?_
          · intro w' hSw; go_simp
          try simp only [Act.put, List.getElem_toArray, List.getElem_cons_succ, List.getElem_cons_zero, List.setIfInBounds_toArray, List.set_cons_zero, List.set_cons_succ]
          refine wpAnyH_take (i := 11) (v := .slice p2 xb.length q2) rfl (by kernel_rfl) (by kernel_rfl) (by kernel_rfl) (fun _ _ _ h => h) (Or.inl ⟨by rfl, ?_⟩) hHeld ?_
          · intro w' hSw; have kx := G2.out w' hSw; go_simp
          try simp only [Act.put, List.getElem_toArray, List.getElem_cons_succ, List.getElem_cons_zero, List.setIfInBounds_toArray, List.set_cons_zero, List.set_cons_succ]
          refine wpAnyH_ready (rs := [12]) (by kernel_rfl) (by simp) ?_
          refine allCall (f := 89) (args := #[.agg #[.slice pa ac.length ca, .slice (some ⟨b3, o3, none⟩) la.length av2], .agg #[.slice pb bc.length cb, .slice (some ⟨b4, o4, none⟩) lb.length bv2], .slice p1 xa.length q1, .slice p2 xb.length q2]) rfl (by kernel_rfl) (by kernel_rfl) ?_ AllReadyH.nil
          have HBd := Lib.hid (HBwk.out.trans (hS0.mono (by omega)))
          refine refAgree_any lca hca lcb hcb lra hra lrb hrb ac bc _ _ _ _ _ _ _ _ _ _ xa xb _ _ wk.drew (Sl.below Ha.out Strs.loc HBd.out hha) (by show hca ≤ wk.heap.size; omega) (Sl.below Hb.out Strs.loc HBd.out hhb) (by show hcb ≤ wk.heap.size; omega) (Sl.below R1.out Row1.loc (HBk.out.trans (hS0.mono (by omega))) (by omega)) (by show hra ≤ wk.heap.size; omega) (Sl.below R2.out Row1.loc hS0 (by omega)) (by show hrb ≤ wk.heap.size; omega) Hxl.out Hyl.out Hxs.out Hys.out (by omega) (by omega) _ (fun wq hBq => ?_)
          have hBq' : Below wk.heap.size wk wq := hS0.trans hBq
          refine ⟨_, rfl, hBq', ?_⟩
          have HBq := Lib.hid hBq'
          clear hBq' hBq hHeld
          have hHeld := HBq.out
          try simp only [Act.put, List.getElem_toArray, List.getElem_cons_succ, List.getElem_cons_zero, List.setIfInBounds_toArray, List.set_cons_zero, List.set_cons_succ]
          refine wpAnyH_take (i := 13) (v := .bool (refAgreeB ac bc xa xb)) rfl (by kernel_rfl) (by kernel_rfl) (by kernel_rfl) (fun _ _ _ h => h) (Or.inl ⟨by rfl, ?_⟩) hHeld ?_
          · intro w' hSw; go_simp
          try simp only [Act.put, List.getElem_toArray, List.getElem_cons_succ, List.getElem_cons_zero, List.setIfInBounds_toArray, List.set_cons_zero, List.set_cons_succ]
          refine wpAnyH_done (by kernel_rfl) ?_ _
          clear hHeld
          have HBq2 := Lib.hid (HBk.out.trans (HBq.out.mono (by omega)))
          rw [Hmet.out]
          generalize hbv : agreeR ac bc xa xb = bv2' at *
          generalize hmv : (lb.take k).any (fun y => agreeR ac bc xa y) = mv at *
          cases mv
          · go_wp2_with fail
            go_roundw
            case rel => exact ⟨k + 1, by omega, by go_num, by rw [Hsk.out]; cases bv2' <;> rfl, HBq2.out⟩
            case measure => simp [intOf]; omega
          · go_wp2_with fail
            go_roundw
            case rel => exact ⟨k + 1, by omega, by go_num, by rw [Hsk.out]; rfl, HBq2.out⟩
            case measure => simp [intOf]; omega
        · obtain rfl : k = lb.length := by omega
          have llk : ¬ ((lb.length : Nat) : Int) < (lb.length : Int) := by omega
          rw [List.take_length]
          have HBwk2 := Lib.hid (HBo.out.trans (HBk.out.mono (by omega)))
          have Hok := Lib.hid (Ho.out.kept HBk.out)
          have Gk := G1.out wk HBk.out
          cases hmet : lb.any fun y => agreeR ac bc xa y
          · have Hst2 : Hid (((la.take (i + 1)).filter fun x => !(lb.any fun y => agreeR ac bc x y)) = X ++ [xa]) := Lib.hid (by rw [Hst.out, hmet]; rfl)
            clear hmet Hst
            obtain ⟨v3, w3, hr3, ho3, ha3⟩ := LR.snoc Hok.out (Nat.zero_le lra) p1 q1 xa (Sl.below R1.out Row1.loc HBk.out (by omega)) (by omega) (fun q e => .inr (by have := (Ho.out.lt q e).1; omega)) rfl (by omega) (by omega)
            have HO3 := Lib.hid ho3
            have HB3 := Lib.hid (HBwk2.out.trans (ha3.below (B := w6.heap.size) (by omega) (fun q e => (Ho.out.lt q e).1)))
            clear ho3 ha3
            go_wp2_with (at_builtin; refine AtApp.of ?_)
            refine AtApp.go hr3 rfl rfl rfl rfl ?_
            go_wp2_with fail
            go_roundw
            case rel => exact ⟨i + 1, by omega, by go_num, by rw [Hst2.out]; exact HO3.out, HB3.out⟩
            case measure => simp [intOf]; omega
          · have Hst2 : Hid (((la.take (i + 1)).filter fun x => !(lb.any fun y => agreeR ac bc x y)) = X) := Lib.hid (by rw [Hst.out, hmet]; simp)
            clear hmet Hst
            go_wp2_with fail
            go_roundw
            case rel => exact ⟨i + 1, by omega, by go_num, by rw [Hst2.out]; exact Hok.out, HBwk2.out⟩
            case measure => simp [intOf]; omega
    · obtain rfl : i = la.length := by omega
      have llt : ¬ ((la.length : Nat) : Int) < (la.length : Int) := by omega
      have hO := Ho.out
      rw [List.take_length] at hO hfl hpo
      have HO : Hid (LR w6.heap.size 0 wo _ (withoutL ac la bc lb)) := Lib.hid hO
      have hwl : (withoutL ac la bc lb).length ≤ la.length := hfl
      change _ = Value.slice po (withoutL ac la bc lb).length co at hpo
      clear hO hfl
      have hll2 : (withoutL ac la bc lb).length ≤ 1000000000000 := by omega
      have HBm := Lib.hid HBo.out
      subst hpo
      go_wp2_with fail
      obtain ⟨wm, ewm⟩ : ∃ x, x = wo := ⟨_, rfl⟩
      subst ewm
      refine refMadeP_any 0 wm.heap.size lca hca ac _ _ (withoutL ac la bc lb) _ wm (Sl.below Ha.out Strs.loc HBw.out hha) (by omega) (HO.out.rws (Nat.zero_le _)) (Nat.le_refl _) hll2 (fun x hx => by
        rw [may_len Hm.out x (List.mem_filter.1 hx).1]; omega) (fun x hx => Hras.out x (List.mem_filter.1 hx).1) _ (fun w7 cv7 lv7 hB7 hT7 hO7 => ?_)
      generalize hE : madeErr ac (withoutL ac la bc lb) = err at *
      generalize okL err ac = oc at *
      generalize okL err (relCanon (withoutL ac la bc lb)) = ol at *
      obtain ⟨p7, q7, rfl, -, -, -, -⟩ := hT7.form
      obtain ⟨p8, q8, rfl, -, -, -, -⟩ := hO7.form
      have hzm := HBm.out.size
      have hB67 : Below w6.heap.size w6 w7 := HBm.out.trans (hB7.mono hzm)
      have hb7 := Hd3.out.below hB67 hld
      obtain ⟨e0, e1⟩ := hb7.cells.c2
      have f0 := hb7.free 0
      have f1 := hb7.free 1
      simp only [Nat.zero_add] at e1
      obtain ⟨t1, t2, t3⟩ := refTail (pc := p7) (pr := p8) (nc := oc.length) (nr := ol.length) (qc := q7) (qr := q8) hb7
      have hsz7 : w6.heap.size ≤ w7.heap.size := hB67.size
      have hwm : wm.heap.size ≤ w7.heap.size := hB7.size
      have hr := HR.out _ _ _ (((HW6.out.trans (hB67.mono (by omega))).setCell (p := ⟨w.heap.size + 1 + 1, 0, none⟩) (by show w.heap.size ≤ w.heap.size + 1 + 1; omega) (.slice p7 oc.length q7)).setCell (p := ⟨w.heap.size + 1 + 1, 1, none⟩) (by show w.heap.size ≤ w.heap.size + 1 + 1; omega) (.slice p8 ol.length q8)) (Sl.agree hT7 Strs.loc (t2 _ _ (.inr (by omega)))) (Sl.mono (Sl.agree hO7 rowE_loc (t2 _ _ (.inl (by omega)))) rowE_loc (by omega) (Nat.le_of_eq t3.symm))
      have Hr := Lib.hid hr
      have Ht := Lib.hid t1
      clear hr t1 t2 t3 hb7 hB67 hB7 hT7 hO7
      go_wp2_with fail
      exact ret_cell_tmp rfl rfl Ht.out rfl rfl Hr.out

end Go.Proofs.Ytpncblagjkbemaa
end

/- The document's Join. (Printed by mep.py, merf.py.) -/
section
namespace Go.Proofs.Ytpncblagjkbemaa
open Go.RowKit
set_option linter.unusedVariables false
set_option linter.unusedSimpArgs false
attribute [local go_sem ↓] Go.wp_at_zero Go.wp_at_succ

theorem joinL_take (ac : List S) (la : List (List V)) (bc : List S) (lb : List (List V)) (i : Nat) (h : i < la.length) : joinL ac (la.take (i + 1)) bc lb = joinL ac (la.take i) bc lb ++ ((lb.filter (agreeR ac bc la[i])).map fun y => la[i] ++ pickL y (placesL (restC ac bc) bc)) := by
  unfold joinL
  rw [List.take_succ_eq_append_getElem h, List.flatMap_append]
  simp
theorem joinL_len (ac : List S) (la : List (List V)) (bc : List S) (lb : List (List V)) : (joinL ac la bc lb).length ≤ la.length * lb.length := by
  unfold joinL
  induction la with
  | nil => simp
  | cons a r ih =>
    rw [List.flatMap_cons, List.length_append, List.length_map, List.length_cons, Nat.succ_mul]
    have : (lb.filter (agreeR ac bc a)).length ≤ lb.length := List.length_filter_le _ _
    omega
theorem within_rest (a b : List S) : withinB (restC a b) b = true := within_sub (fun c h => (List.mem_filter.1 h).1)
set_option maxRecDepth 100000 in
set_option pp.deepTerms true in
set_option maxHeartbeats 16000000 in
theorem refJoin_any (lca hca lra hra lcb hcb lrb hrb : Nat) (ac bc : List S) (pa pb : Option Addr) (ca cb : Nat) (la lb : List (List V)) (lva lvb : Value) (w : World) (ha : Strs lca hca w (.slice pa ac.length ca) ac) (hha : hca ≤ w.heap.size) (hla : Rws lra hra w lva la) (hhla : hra ≤ w.heap.size) (hb : Strs lcb hcb w (.slice pb bc.length cb) bc) (hhb : hcb ≤ w.heap.size) (hlb : Rws lrb hrb w lvb lb) (hhlb : hrb ≤ w.heap.size) (hras : ∀ x ∈ la, ∀ a ∈ x, a.s.length ≤ 9223372036854775807) (hrbs : ∀ x ∈ lb, ∀ a ∈ x, a.s.length ≤ 9223372036854775807) (hll : la.length ≤ 1000000) (hllb : lb.length ≤ 1000000) (R : Ending → World → Prop)
    (hR : ∀ w' cv2 lv2, Below w.heap.size w w' → Strs w.heap.size w'.heap.size w' cv2 (okL (joinErr ac la bc lb) (joinCols ac bc)) → Rws w.heap.size w'.heap.size w' lv2 (okL (joinErr ac la bc lb) (relCanon (joinL ac la bc lb))) → R (.returned (.tuple #[.agg #[cv2, lv2], .int .i64 (joinErr ac la bc lb)])) w') :
    Calls Try.prog 42 #[.agg #[.slice pa ac.length ca, lva], .agg #[.slice pb bc.length cb, lvb]] w R := by
  have HR := Lib.hid hR
  have Ha := Lib.hid ha
  have Hb := Lib.hid hb
  have Hla := Lib.hid hla
  have Hlb := Lib.hid hlb
  have Hras := Lib.hid hras
  have Hrbs := Lib.hid hrbs
  obtain ⟨av, av2, rfl, -, -, -, -⟩ := hla.form
  obtain ⟨bv, bv2, rfl, -, -, -, -⟩ := hlb.form
  have hal63 := ha.len
  have hbl63 := hb.len
  clear hR ha hb hla hlb hras hrbs
  obtain ⟨wa, ewa⟩ : ∃ x, x = w.alloc (.cells #[.slice pa ac.length ca, .slice av la.length av2] 53) := ⟨_, rfl⟩
  obtain ⟨wb, ewb⟩ : ∃ x, x = wa.alloc (.cells #[.slice pb bc.length cb, .slice bv lb.length bv2] 53) := ⟨_, rfl⟩
  obtain ⟨w2, ew2⟩ : ∃ x, x = wb.alloc (.cells #[.slice none 0 0, .slice none 0 0] 53) := ⟨_, rfl⟩
  have sa : wa.heap.size = w.heap.size + 1 := by rw [ewa]; simp
  have sb : wb.heap.size = w.heap.size + 1 + 1 := by rw [ewb]; simp [sa]
  have hBa : Below w.heap.size w wa := by rw [ewa]; exact alloc_below _ _
  have hBb : Below wa.heap.size wa wb := by rw [ewb]; exact alloc_below _ _
  have hBc : Below wb.heap.size wb w2 := by rw [ew2]; exact alloc_below _ _
  have hb1 : Blk wa w.heap.size [.slice pa ac.length ca, .slice av la.length av2] 53 := by rw [ewa]; exact Blk.new w [.slice pa ac.length ca, .slice av la.length av2] _ rfl
  have hb2 : Blk wb (w.heap.size + 1) [.slice pb bc.length cb, .slice bv lb.length bv2] 53 := by rw [ewb]; exact Blk.new wa [.slice pb bc.length cb, .slice bv lb.length bv2] _ sa.symm
  have hb3 : Blk w2 (w.heap.size + 1 + 1) [.slice none 0 0, .slice none 0 0] 53 := by rw [ew2]; exact Blk.new wb [.slice none 0 0, .slice none 0 0] _ sb.symm
  have hb1 := (hb1.below hBb hb1.lt).below hBc (by omega)
  have hb2 := hb2.below hBc hb2.lt
  have hB := hBa.trans ((hBb.mono hBa.size).trans (hBc.mono (by omega)))
  go_enter Try.func42, Try.ntmps42
  go_upto_region 1 with fail
  rw [← ewa, ← ewb, ← ew2]
  clear ewa ewb ew2 hBa hBb hBc sa sb
  have HB := Lib.hid hB
  have Hb1 := Lib.hid hb1
  have Hb2 := Lib.hid hb2
  have Hb3 := Lib.hid hb3
  have hz2 := hB.size
  have hl3 := hb3.lt
  clear hb1 hb2 hb3 hB
  obtain ⟨c0, c1⟩ := Hb1.out.cells.c2
  simp only [Nat.zero_add] at c1
  go_wp2_with fail
  refine refMay_any lra hra lca hca ac _ _ la _ w2 (Sl.below Ha.out Strs.loc HB.out hha) (by omega) (Sl.below Hla.out rowE_loc HB.out hhla) (by omega) Hras.out _ (fun w5 hB5 => ?_)
  have hz5 := hB5.size
  have HA5 := Lib.hid hB5
  have HW5 := Lib.hid (HB.out.trans (hB5.mono hz2))
  clear hB5 c0 c1
  obtain ⟨c0, c1⟩ := (Hb2.out.below HA5.out (by omega)).cells.c2
  simp only [Nat.zero_add] at c1
  go_wp2_with fail
  refine refMay_any lrb hrb lcb hcb bc _ _ lb _ w5 (Sl.below Hb.out Strs.loc HW5.out hhb) (by omega) (Sl.below Hlb.out rowE_loc HW5.out hhlb) (by omega) Hrbs.out _ (fun w6 hB6 => ?_)
  have hz6 := hB6.size
  have HA6 := Lib.hid (HA5.out.trans (hB6.mono (by omega)))
  have HW6 := Lib.hid (HB.out.trans (HA6.out.mono hz2))
  clear hB6 c0 c1
  have Hd1 := Lib.hid (Hb1.out.below HA6.out (by omega))
  have Hd2 := Lib.hid (Hb2.out.below HA6.out (by omega))
  have Hd3 := Lib.hid (Hb3.out.below HA6.out hl3)
  have hld : w.heap.size + 1 + 1 < w6.heap.size := by omega
  obtain ⟨c0, c1⟩ := Hd1.out.cells.c2
  obtain ⟨d0, d1⟩ := Hd2.out.cells.c2
  simp only [Nat.zero_add] at c1 d1
  cases hm : mayRel ac la
  · obtain ⟨e0, e1⟩ := Hd3.out.cells.c2
    have f0 := Hd3.out.free 0
    have f1 := Hd3.out.free 1
    simp only [Nat.zero_add] at e1
    have he : joinErr ac la bc lb = 2 := by unfold joinErr; rw [hm]; rfl
    obtain ⟨t1, t2, t3⟩ := refTail (pc := none) (pr := none) (nc := 0) (nr := 0) (qc := 0) (qr := 0) Hd3.out
    have hr := HR.out _ _ _ ((HW6.out.setCell (p := ⟨w.heap.size + 1 + 1, 0, none⟩) (by show w.heap.size ≤ w.heap.size + 1 + 1; omega) (.slice none 0 0)).setCell (p := ⟨w.heap.size + 1 + 1, 1, none⟩) (by show w.heap.size ≤ w.heap.size + 1 + 1; omega) (.slice none 0 0)) (by rw [he]; exact Sl.nil _ _ _ _ _) (by rw [he]; exact Sl.nil _ _ _ _ _)
    rw [he] at hr
    have Hr := Lib.hid hr
    have Ht := Lib.hid t1
    clear hr t1 t2 t3 he hm
    go_wp2_with fail
    exact ret_cell_tmp rfl rfl Ht.out rfl rfl Hr.out
  have Hm := Lib.hid hm
  clear hm
  cases hmb : mayRel bc lb
  · obtain ⟨e0, e1⟩ := Hd3.out.cells.c2
    have f0 := Hd3.out.free 0
    have f1 := Hd3.out.free 1
    simp only [Nat.zero_add] at e1
    have he : joinErr ac la bc lb = 2 := by unfold joinErr; rw [Hm.out, hmb]; rfl
    obtain ⟨t1, t2, t3⟩ := refTail (pc := none) (pr := none) (nc := 0) (nr := 0) (qc := 0) (qr := 0) Hd3.out
    have hr := HR.out _ _ _ ((HW6.out.setCell (p := ⟨w.heap.size + 1 + 1, 0, none⟩) (by show w.heap.size ≤ w.heap.size + 1 + 1; omega) (.slice none 0 0)).setCell (p := ⟨w.heap.size + 1 + 1, 1, none⟩) (by show w.heap.size ≤ w.heap.size + 1 + 1; omega) (.slice none 0 0)) (by rw [he]; exact Sl.nil _ _ _ _ _) (by rw [he]; exact Sl.nil _ _ _ _ _)
    rw [he] at hr
    have Hr := Lib.hid hr
    have Ht := Lib.hid t1
    clear hr t1 t2 t3 he hmb
    go_wp2_with fail
    exact ret_cell_tmp rfl rfl Ht.out rfl rfl Hr.out
  have Hmb := Lib.hid hmb
  clear hmb
  have hmca := (may_many Hm.out).2
  have hmcb := (may_many Hmb.out).2
  have hrcl := rest_len ac bc
  have he : joinErr ac la bc lb = madeErr (joinCols ac bc) (joinL ac la bc lb) := by unfold joinErr; rw [Hm.out, Hmb.out]; rfl
  rw [he] at HR
  clear he
  have Hag : Hid (∀ x y, refAgreeB ac bc x y = agreeR ac bc x y) := Lib.hid (fun x y => agree_same x y (may_once Hm.out))
  obtain ⟨v8, w8, hr8, ho8, ha8⟩ := appTL (Own.nil strE 9 1 w6.heap.size w6) (Sl.below Ha.out Strs.loc HW6.out hha) (by simp; omega) (Nat.le_refl _)
  rw [List.nil_append] at ho8
  have hB8 : Below w6.heap.size w6 w8 := ha8.below (Nat.le_refl _) (fun k e => by cases e)
  have HB8 := Lib.hid hB8
  have Ho8 := Lib.hid ho8
  have Hr8 := Lib.hid hr8
  have hz8 := hB8.size
  clear hr8 ho8 ha8 hB8
  go_wp2_with (at_builtin; refine AtApp.of ?_)
  refine AtApp.go Hr8.out rfl rfl rfl rfl ?_
  obtain ⟨p8, q8, rfl⟩ := Own.slice Ho8.out
  clear c0 c1 d0 d1
  go_wp2_with fail
  go_loopw [9, 10] (fun t9 t10 wr => ∃ (k : Nat), k ≤ bc.length ∧ t10 = .int .i64 k ∧ OwnT w8.heap.size wr t9 (restC ac (bc.take k)) ∧ Below w8.heap.size w8 wr) (fun _ t10 _ => bc.length - (intOf t10).toNat)
  case atStart => exact ⟨0, Nat.zero_le _, rfl, Own.nil _ _ _ _ _, Below.refl _ _⟩
  case round =>
    obtain ⟨k, hk, rfl, ho, hB⟩ := hrel
    obtain ⟨wo, ewo⟩ : ∃ x, x = wr := ⟨_, rfl⟩
    subst ewo
    have Ho := Lib.hid ho
    have HBo := Lib.hid hB
    have HB6o := Lib.hid (HB8.out.trans (hB.mono (by omega)))
    have HBw := Lib.hid (HW6.out.trans (HB6o.out.mono (by omega)))
    have hzo := hB.size
    have Hbo1 := Lib.hid (Hd1.out.below HB6o.out (by omega))
    have Hbo2 := Lib.hid (Hd2.out.below HB6o.out (by omega))
    have kk0 : (0 : Int) ≤ (k : Int) := by omega
    obtain ⟨po, co, hpo⟩ := Own.slice ho
    have hfl : (restC ac (bc.take k)).length ≤ k := Nat.le_trans (List.length_filter_le _ _) (by rw [List.length_take]; omega)
    clear ho hB
    obtain ⟨c0, c1⟩ := Hbo1.out.cells.c2
    obtain ⟨d0, d1⟩ := Hbo2.out.cells.c2
    simp only [Nat.zero_add] at c1 d1
    by_cases hlt : k < bc.length
    · have kkl : (k : Int) < (bc.length : Int) := by omega
      obtain ⟨b4, o4, rfl, hb4, hst4⟩ := Strs.at (Sl.below Hb.out Strs.loc HBw.out hhb) (by omega) (by omega)
      have G4 := Lib.hid (hst4 k hlt)
      have Hst := Lib.hid (rest_succ ac bc k hlt)
      clear hst4
      generalize bc[k] = s at *
      generalize hX : restC ac (bc.take k) = X at *
      subst hpo
      go_upto_region 10 with fail
      have hS0 : Below wo.heap.size wo wo.drew := (Below.refl _ _).drew
      refine wp_region_held_drew (S := fun w' => Below wo.heap.size wo w') (by kernel_rfl) hS0 (fun hHeld => ?_)
      refine wpAnyH_take (i := 0) (v := .pointer (some ⟨w.heap.size, 0, none⟩)) rfl (by kernel_rfl) (by kernel_rfl) (by kernel_rfl) (fun _ _ _ h => h) (Or.inl ⟨by rfl, ?_⟩) hHeld ?_
      · intro w' hSw; go_simp
      try simp only [Act.put, List.getElem_toArray, List.getElem_cons_succ, List.getElem_cons_zero, List.setIfInBounds_toArray, List.set_cons_zero, List.set_cons_succ]
      refine wpAnyH_take (i := 1) (v := .slice pa ac.length ca) rfl (by kernel_rfl) (by kernel_rfl) (by kernel_rfl) (fun _ _ _ h => h) (Or.inl ⟨by rfl, ?_⟩) hHeld ?_
      · intro w' hSw; obtain ⟨z0, z1⟩ := (Hbo1.out.below hSw (by omega)).cells.c2; simp only [Nat.zero_add] at z1; go_simp
      try simp only [Act.put, List.getElem_toArray, List.getElem_cons_succ, List.getElem_cons_zero, List.setIfInBounds_toArray, List.set_cons_zero, List.set_cons_succ]
      refine wpAnyH_take (i := 2) (v := .pointer (some ⟨w.heap.size + 1, 0, none⟩)) rfl (by kernel_rfl) (by kernel_rfl) (by kernel_rfl) (fun _ _ _ h => h) (Or.inl ⟨by rfl, ?_⟩) hHeld ?_
      · intro w' hSw; go_simp
      try simp only [Act.put, List.getElem_toArray, List.getElem_cons_succ, List.getElem_cons_zero, List.setIfInBounds_toArray, List.set_cons_zero, List.set_cons_succ]
      refine wpAnyH_take (i := 3) (v := .slice (some ⟨b4, o4, none⟩) bc.length cb) rfl (by kernel_rfl) (by kernel_rfl) (by kernel_rfl) (fun _ _ _ h => h) (Or.inl ⟨by rfl, ?_⟩) hHeld ?_
      · intro w' hSw; obtain ⟨z0, z1⟩ := (Hbo2.out.below hSw (by omega)).cells.c2; simp only [Nat.zero_add] at z1; go_simp
      try simp only [Act.put, List.getElem_toArray, List.getElem_cons_succ, List.getElem_cons_zero, List.setIfInBounds_toArray, List.set_cons_zero, List.set_cons_succ]
      refine wpAnyH_take (i := 4) (v := .int .i64 ((k : Int))) rfl (by kernel_rfl) (by kernel_rfl) (by kernel_rfl) (fun _ _ _ h => h) (Or.inl ⟨by rfl, ?_⟩) hHeld ?_
      · intro w' hSw; go_simp
      try simp only [Act.put, List.getElem_toArray, List.getElem_cons_succ, List.getElem_cons_zero, List.setIfInBounds_toArray, List.set_cons_zero, List.set_cons_succ]
      refine wpAnyH_take (i := 5) (v := .pointer (some ⟨b4, o4 + k, none⟩)) rfl (by kernel_rfl) (by kernel_rfl) (by kernel_rfl) (fun _ _ _ h => h) (Or.inl ⟨by rfl, ?_⟩) hHeld ?_
      · intro w' hSw; go_simp
      try simp only [Act.put, List.getElem_toArray, List.getElem_cons_succ, List.getElem_cons_zero, List.setIfInBounds_toArray, List.set_cons_zero, List.set_cons_succ]
      refine wpAnyH_take (i := 6) (v := .string ⟨s.toArray⟩) rfl (by kernel_rfl) (by kernel_rfl) (by kernel_rfl) (fun _ _ _ h => h) (Or.inl ⟨by rfl, ?_⟩) hHeld ?_
      · intro w' hSw; have kx := G4.out w' hSw; go_simp
      try simp only [Act.put, List.getElem_toArray, List.getElem_cons_succ, List.getElem_cons_zero, List.setIfInBounds_toArray, List.set_cons_zero, List.set_cons_succ]
      refine wpAnyH_ready (rs := [7]) (by kernel_rfl) (by simp) ?_
      refine allCall (f := 88) (args := #[.slice pa ac.length ca, .string ⟨s.toArray⟩]) rfl (by kernel_rfl) (by kernel_rfl) ?_ AllReadyH.nil
      refine place_any lca hca ac s _ wo.drew (Sl.below Ha.out Strs.loc (HBw.out.trans (hS0.mono (by omega))) hha) _ ?_
      refine ⟨_, rfl, hS0, ?_⟩
      try simp only [Act.put, List.getElem_toArray, List.getElem_cons_succ, List.getElem_cons_zero, List.setIfInBounds_toArray, List.set_cons_zero, List.set_cons_succ]
      refine wpAnyH_take (i := 8) (v := .int .i64 (placeI ac s)) rfl (by kernel_rfl) (by kernel_rfl) (by kernel_rfl) (fun _ _ _ h => h) (Or.inl ⟨by rfl, ?_⟩) hHeld ?_
      · intro w' hSw; go_simp
      try simp only [Act.put, List.getElem_toArray, List.getElem_cons_succ, List.getElem_cons_zero, List.setIfInBounds_toArray, List.set_cons_zero, List.set_cons_succ]
      refine wpAnyH_done (by kernel_rfl) ?_ _
      clear hHeld
      have HBd := Lib.hid (HBo.out.drew)
      have Hod := Lib.hid (Ho.out.kept hS0)
      have G4d := G4.out wo.drew hS0
      have hpl := placeI_lt ac s
      by_cases hp : 0 ≤ placeI ac s
      · have hp2 : ¬ placeI ac s < 0 := by omega
        have Hst2 : Hid (restC ac (bc.take (k + 1)) = X) := Lib.hid (by rw [Hst.out, if_pos hp, List.append_nil])
        clear Hst hS0
        generalize placeI ac s = pq at *
        go_wp2_with fail
        go_roundw
        case rel => exact ⟨k + 1, by omega, by go_num, by rw [Hst2.out]; exact Hod.out, HBd.out⟩
        case measure => simp [intOf]; omega
      · have hp2 : placeI ac s < 0 := by omega
        have Hst2 : Hid (restC ac (bc.take (k + 1)) = X ++ [s]) := Lib.hid (by rw [Hst.out, if_neg hp])
        obtain ⟨v3, w3, hr3, ho3, ha3⟩ := appT1 Hod.out s rfl (by omega) (show w8.heap.size ≤ wo.heap.size by omega)
        have HO3 := Lib.hid ho3
        have HB3 := Lib.hid (HBd.out.trans (ha3.below (B := w8.heap.size) (show w8.heap.size ≤ wo.heap.size by omega) (fun q e => (Own.lt Ho.out q e).1)))
        have Hr3 := Lib.hid hr3
        clear ho3 ha3 hr3 Hst hS0 c0 c1 d0 d1
        obtain ⟨c0, c1⟩ := Hbo1.out.drew.cells.c2
        obtain ⟨d0, d1⟩ := Hbo2.out.drew.cells.c2
        simp only [Nat.zero_add] at c1 d1
        generalize placeI ac s = pq at *
        go_wp2_with (at_builtin; refine AtApp.of ?_)
        refine AtApp.go Hr3.out rfl rfl rfl rfl ?_
        go_wp2_with fail
        go_roundw
        case rel => exact ⟨k + 1, by omega, by go_num, by rw [Hst2.out]; exact HO3.out, HB3.out⟩
        case measure => simp [intOf]; omega
    · obtain rfl : k = bc.length := by omega
      have llt : ¬ ((bc.length : Nat) : Int) < (bc.length : Int) := by omega
      have hO := Ho.out
      rw [List.take_length] at hO hpo
      have HO9 := Lib.hid hO
      clear hO hfl
      subst hpo
      have Ho8o := Lib.hid (Ho8.out.kept HBo.out)
      have Hs9 := Lib.hid (OwnT.sl HO9.out)
      obtain ⟨v9, w9, hr9, ho9, ha9⟩ := appTL Ho8o.out Hs9.out (by omega) (show w6.heap.size ≤ wo.heap.size by omega)
      have hB9 : Below w6.heap.size wo w9 := ha9.below (show w6.heap.size ≤ wo.heap.size by omega) (fun q e => (Own.lt Ho8.out q e).1)
      have hz9 : wo.heap.size ≤ w9.heap.size := ha9.grown.size
      have Hs9b : Hid (Strs w8.heap.size wo.heap.size w9 (.slice po (restC ac bc).length co) (restC ac bc)) := Lib.hid (Sl.agree Hs9.out Strs.loc (ha9.agree (Nat.le_refl _) (fun q e => .inl (Own.lt Ho8.out q e).2)))
      have Hc9 : Hid (Strs w6.heap.size w9.heap.size w9 v9 (joinCols ac bc)) := Lib.hid (OwnT.sl ho9)
      have HB69 := Lib.hid (HB6o.out.trans hB9)
      have Hr9 := Lib.hid hr9
      clear hr9 ho9 ha9 hB9 c0 c1 d0 d1
      have HW9 := Lib.hid (HW6.out.trans (HB69.out.mono (by omega)))
      have He1 := Lib.hid (Hd1.out.below HB69.out (by omega))
      have He2 := Lib.hid (Hd2.out.below HB69.out (by omega))
      have He3 := Lib.hid (Hd3.out.below HB69.out hld)
      clear Hs9 Ho8o HO9 Ho Hbo1 Hbo2
      obtain ⟨c0, c1⟩ := (Hd1.out.below HB6o.out (by omega)).cells.c2
      obtain ⟨d0, d1⟩ := (Hd2.out.below HB6o.out (by omega)).cells.c2
      simp only [Nat.zero_add] at c1 d1
      go_wp2_with (at_builtin; refine AtApp.of ?_)
      refine AtApp.go Hr9.out rfl rfl rfl rfl ?_
      obtain ⟨p9, q9, rfl, -, -, -, -⟩ := Hc9.out.form
      clear c0 c1 d0 d1
      go_wp2_with fail
      have hcapJ : la.length * lb.length ≤ 1000000000000 := Nat.mul_le_mul hll hllb
      go_loopw [12, 13] (fun t12 t13 wr => ∃ (i : Nat), i ≤ la.length ∧ t13 = .int .i64 i ∧ LR w9.heap.size 0 wr t12 (joinL ac (la.take i) bc lb) ∧ Below w9.heap.size w9 wr) (fun _ t13 _ => la.length - (intOf t13).toNat)
      case atStart => exact ⟨0, Nat.zero_le _, rfl, LR.nil _ _ _, Below.refl _ _⟩
      case round =>
        obtain ⟨i, hi, rfl, ho, hB⟩ := hrel
        obtain ⟨wi, ewi⟩ : ∃ x, x = wr := ⟨_, rfl⟩
        subst ewi
        have Hoi := Lib.hid ho
        have HBi := Lib.hid hB
        have hzi := hB.size
        have ii0 : (0 : Int) ≤ (i : Int) := by omega
        obtain ⟨pi, ci, hpi⟩ := ho.slice
        have hjl : (joinL ac (la.take i) bc lb).length + lb.length ≤ 2000000000000 := by
          have h1 := joinL_len ac (la.take i) bc lb
          have h2 : (la.take i).length * lb.length ≤ la.length * lb.length := Nat.mul_le_mul_right _ (by rw [List.length_take]; omega)
          omega
        obtain ⟨c0, c1⟩ := (He1.out.below hB (by omega)).cells.c2
        obtain ⟨d0, d1⟩ := (He2.out.below hB (by omega)).cells.c2
        simp only [Nat.zero_add] at c1 d1
        clear ho hB
        by_cases hlt : i < la.length
        · have iil : (i : Int) < (la.length : Int) := by omega
          obtain ⟨b3, o3, rfl, hb3, hrow3⟩ := Rws.at (Sl.below Hla.out rowE_loc HW9.out hhla) (by omega) (by omega)
          obtain ⟨p1, q1, g1, r1⟩ := hrow3 i hlt
          have G1 := Lib.hid g1
          have R1 := Lib.hid r1
          have Hst := Lib.hid (joinL_take ac la bc lb i hlt)
          have Hxl : Hid (la[i].length = ac.length) := Lib.hid (may_len Hm.out _ (List.getElem_mem hlt))
          have Hxs : Hid (∀ a ∈ la[i], a.s.length ≤ 9223372036854775807) := Lib.hid (Hras.out _ (List.getElem_mem hlt))
          clear hrow3 g1 r1
          generalize la[i] = xa at *
          generalize hX : joinL ac (la.take i) bc lb = X at *
          go_wp2_with fail
          go_loopw [12, 14] (fun t12 t14 wk => ∃ (k : Nat), k ≤ lb.length ∧ t14 = .int .i64 k ∧ LR w9.heap.size 0 wk t12 (X ++ (((lb.take k).filter (agreeR ac bc xa)).map fun y => xa ++ pickL y (placesL (restC ac bc) bc))) ∧ Below w9.heap.size w9 wk) (fun _ t14 _ => lb.length - (intOf t14).toNat)
          case atStart => exact ⟨0, Nat.zero_le _, rfl, by simpa using Hoi.out, HBi.out⟩
          case round =>
            obtain ⟨k, hk, rfl, ho, hB⟩ := hrel
            obtain ⟨wk, ewk⟩ : ∃ x, x = wr := ⟨_, rfl⟩
            subst ewk
            have Hok := Lib.hid ho
            have HBk := Lib.hid hB
            have HBwk := Lib.hid (HW9.out.trans (hB.mono (by omega)))
            have hzk := hB.size
            have Hbk1 := Lib.hid (He1.out.below hB (by omega))
            have Hbk2 := Lib.hid (He2.out.below hB (by omega))
            have kk0 : (0 : Int) ≤ (k : Int) := by omega
            obtain ⟨po2, co2, hpo2⟩ := ho.slice
            have hjk : (X ++ (((lb.take k).filter (agreeR ac bc xa)).map fun y => xa ++ pickL y (placesL (restC ac bc) bc))).length ≤ 2000000000000 := by
              rw [List.length_append, List.length_map]
              have h1 := List.length_filter_le (agreeR ac bc xa) (lb.take k)
              rw [List.length_take] at h1
              omega
            clear ho hB c0 c1 d0 d1
            obtain ⟨c0, c1⟩ := Hbk1.out.cells.c2
            obtain ⟨d0, d1⟩ := Hbk2.out.cells.c2
            simp only [Nat.zero_add] at c1 d1
            by_cases hlk : k < lb.length
            · have kkl : (k : Int) < (lb.length : Int) := by omega
              obtain ⟨b4, o4, rfl, hb4, hrow4⟩ := Rws.at (Sl.below Hlb.out rowE_loc HW9.out hhlb) (by omega) (by omega)
              obtain ⟨p2, q2, g2, r2⟩ := hrow4 k hlk
              have G2 := Lib.hid g2
              have R2 := Lib.hid r2
              have Hsk : Hid (((lb.take (k + 1)).filter (agreeR ac bc xa)).map (fun y => xa ++ pickL y (placesL (restC ac bc) bc)) = (((lb.take k).filter (agreeR ac bc xa)).map fun y => xa ++ pickL y (placesL (restC ac bc) bc)) ++ (if agreeR ac bc xa lb[k] = true then [xa ++ pickL lb[k] (placesL (restC ac bc) bc)] else [])) := Lib.hid (by
                rw [List.take_succ_eq_append_getElem hlk, List.filter_append, List.filter_cons, List.filter_nil, List.map_append]
                cases agreeR ac bc xa lb[k] <;> rfl)
              have Hyl : Hid (lb[k].length = bc.length) := Lib.hid (may_len Hmb.out _ (List.getElem_mem hlk))
              have Hys : Hid (∀ a ∈ lb[k], a.s.length ≤ 9223372036854775807) := Lib.hid (Hrbs.out _ (List.getElem_mem hlk))
              have Hmet := Lib.hid (Hag.out xa lb[k])
              clear hrow4 g2 r2
              generalize lb[k] = xb at *
              generalize hXK : X ++ (((lb.take k).filter (agreeR ac bc xa)).map fun y => xa ++ pickL y (placesL (restC ac bc) bc)) = XK at *
              have HXK := Lib.hid hXK
              clear hXK
              subst hpo2
              go_upto_region 21 with fail
              have hS0 : Below wk.heap.size wk wk.drew := (Below.refl _ _).drew
              refine wp_region_held_drew (S := fun w' => Below wk.heap.size wk w') (by kernel_rfl) hS0 (fun hHeld => ?_)
              refine wpAnyH_take (i := 0) (v := .agg #[.slice pa ac.length ca, .slice (some ⟨b3, o3, none⟩) la.length av2]) rfl (by kernel_rfl) (by kernel_rfl) (by kernel_rfl) (fun _ _ _ h => h) (Or.inl ⟨by rfl, ?_⟩) hHeld ?_
              · intro w' hSw; obtain ⟨z0, z1⟩ := (Hbk1.out.below hSw (by omega)).cells.c2; simp only [Nat.zero_add] at z1; go_simp
              try simp only [Act.put, List.getElem_toArray, List.getElem_cons_succ, List.getElem_cons_zero, List.setIfInBounds_toArray, List.set_cons_zero, List.set_cons_succ]
              refine wpAnyH_take (i := 1) (v := .agg #[.slice pb bc.length cb, .slice (some ⟨b4, o4, none⟩) lb.length bv2]) rfl (by kernel_rfl) (by kernel_rfl) (by kernel_rfl) (fun _ _ _ h => h) (Or.inl ⟨by rfl, ?_⟩) hHeld ?_
              · intro w' hSw; obtain ⟨z0, z1⟩ := (Hbk2.out.below hSw (by omega)).cells.c2; simp only [Nat.zero_add] at z1; go_simp
              try simp only [Act.put, List.getElem_toArray, List.getElem_cons_succ, List.getElem_cons_zero, List.setIfInBounds_toArray, List.set_cons_zero, List.set_cons_succ]
              refine wpAnyH_take (i := 2) (v := .pointer (some ⟨w.heap.size, 1, none⟩)) rfl (by kernel_rfl) (by kernel_rfl) (by kernel_rfl) (fun _ _ _ h => h) (Or.inl ⟨by rfl, ?_⟩) hHeld ?_
              · intro w' hSw; go_simp
              try simp only [Act.put, List.getElem_toArray, List.getElem_cons_succ, List.getElem_cons_zero, List.setIfInBounds_toArray, List.set_cons_zero, List.set_cons_succ]
              refine wpAnyH_take (i := 3) (v := .slice (some ⟨b3, o3, none⟩) la.length av2) rfl (by kernel_rfl) (by kernel_rfl) (by kernel_rfl) (fun _ _ _ h => h) (Or.inl ⟨by rfl, ?_⟩) hHeld ?_
              · intro w' hSw; obtain ⟨z0, z1⟩ := (Hbk1.out.below hSw (by omega)).cells.c2; simp only [Nat.zero_add] at z1; go_simp
              try simp only [Act.put, List.getElem_toArray, List.getElem_cons_succ, List.getElem_cons_zero, List.setIfInBounds_toArray, List.set_cons_zero, List.set_cons_succ]
              refine wpAnyH_take (i := 4) (v := .int .i64 ((i : Int))) rfl (by kernel_rfl) (by kernel_rfl) (by kernel_rfl) (fun _ _ _ h => h) (Or.inl ⟨by rfl, ?_⟩) hHeld ?_
              · intro w' hSw; go_simp
              try simp only [Act.put, List.getElem_toArray, List.getElem_cons_succ, List.getElem_cons_zero, List.setIfInBounds_toArray, List.set_cons_zero, List.set_cons_succ]
              refine wpAnyH_take (i := 5) (v := .pointer (some ⟨b3, o3 + i, none⟩)) rfl (by kernel_rfl) (by kernel_rfl) (by kernel_rfl) (fun _ _ _ h => h) (Or.inl ⟨by rfl, ?_⟩) hHeld ?_
              · intro w' hSw; go_simp
              try simp only [Act.put, List.getElem_toArray, List.getElem_cons_succ, List.getElem_cons_zero, List.setIfInBounds_toArray, List.set_cons_zero, List.set_cons_succ]
              refine wpAnyH_take (i := 6) (v := .slice p1 xa.length q1) rfl (by kernel_rfl) (by kernel_rfl) (by kernel_rfl) (fun _ _ _ h => h) (Or.inl ⟨by rfl, ?_⟩) hHeld ?_
              · intro w' hSw; have kx := G1.out w' (HBk.out.trans (hSw.mono (by omega))); go_simp
              try simp only [Act.put, List.getElem_toArray, List.getElem_cons_succ, List.getElem_cons_zero, List.setIfInBounds_toArray, List.set_cons_zero, List.set_cons_succ]
              refine wpAnyH_take (i := 7) (v := .pointer (some ⟨w.heap.size + 1, 1, none⟩)) rfl (by kernel_rfl) (by kernel_rfl) (by kernel_rfl) (fun _ _ _ h => h) (Or.inl ⟨by rfl, ?_⟩) hHeld ?_
              · intro w' hSw; go_simp
              try simp only [Act.put, List.getElem_toArray, List.getElem_cons_succ, List.getElem_cons_zero, List.setIfInBounds_toArray, List.set_cons_zero, List.set_cons_succ]
              refine wpAnyH_take (i := 8) (v := .slice (some ⟨b4, o4, none⟩) lb.length bv2) rfl (by kernel_rfl) (by kernel_rfl) (by kernel_rfl) (fun _ _ _ h => h) (Or.inl ⟨by rfl, ?_⟩) hHeld ?_
              · intro w' hSw; obtain ⟨z0, z1⟩ := (Hbk2.out.below hSw (by omega)).cells.c2; simp only [Nat.zero_add] at z1; go_simp
              try simp only [Act.put, List.getElem_toArray, List.getElem_cons_succ, List.getElem_cons_zero, List.setIfInBounds_toArray, List.set_cons_zero, List.set_cons_succ]
              refine wpAnyH_take (i := 9) (v := .int .i64 ((k : Int))) rfl (by kernel_rfl) (by kernel_rfl) (by kernel_rfl) (fun _ _ _ h => h) (Or.inl ⟨by rfl, ?_⟩) hHeld ?_
              · intro w' hSw; go_simp
              try simp only [Act.put, List.getElem_toArray, List.getElem_cons_succ, List.getElem_cons_zero, List.setIfInBounds_toArray, List.set_cons_zero, List.set_cons_succ]
              refine wpAnyH_take (i := 10) (v := .pointer (some ⟨b4, o4 + k, none⟩)) rfl (by kernel_rfl) (by kernel_rfl) (by kernel_rfl) (fun _ _ _ h => h) (Or.inl ⟨by rfl, ?_⟩) hHeld ?_
              · intro w' hSw; go_simp
              try simp only [Act.put, List.getElem_toArray, List.getElem_cons_succ, List.getElem_cons_zero, List.setIfInBounds_toArray, List.set_cons_zero, List.set_cons_succ]
              refine wpAnyH_take (i := 11) (v := .slice p2 xb.length q2) rfl (by kernel_rfl) (by kernel_rfl) (by kernel_rfl) (fun _ _ _ h => h) (Or.inl ⟨by rfl, ?_⟩) hHeld ?_
              · intro w' hSw; have kx := G2.out w' (HBk.out.trans (hSw.mono (by omega))); go_simp
              try simp only [Act.put, List.getElem_toArray, List.getElem_cons_succ, List.getElem_cons_zero, List.setIfInBounds_toArray, List.set_cons_zero, List.set_cons_succ]
              refine wpAnyH_ready (rs := [12]) (by kernel_rfl) (by simp) ?_
              refine allCall (f := 89) (args := #[.agg #[.slice pa ac.length ca, .slice (some ⟨b3, o3, none⟩) la.length av2], .agg #[.slice pb bc.length cb, .slice (some ⟨b4, o4, none⟩) lb.length bv2], .slice p1 xa.length q1, .slice p2 xb.length q2]) rfl (by kernel_rfl) (by kernel_rfl) ?_ AllReadyH.nil
              have HBd := Lib.hid (HBwk.out.trans (hS0.mono (by omega)))
              have HB9k := Lib.hid (HBk.out.trans (hS0.mono (by omega)))
              refine refAgree_any lca hca lcb hcb lra hra lrb hrb ac bc _ _ _ _ _ _ _ _ _ _ xa xb _ _ wk.drew (Sl.below Ha.out Strs.loc HBd.out hha) (by show hca ≤ wk.heap.size; omega) (Sl.below Hb.out Strs.loc HBd.out hhb) (by show hcb ≤ wk.heap.size; omega) (Sl.below R1.out Row1.loc HB9k.out (by omega)) (by show hra ≤ wk.heap.size; omega) (Sl.below R2.out Row1.loc HB9k.out (by omega)) (by show hrb ≤ wk.heap.size; omega) Hxl.out Hyl.out Hxs.out Hys.out (by omega) (by omega) _ (fun wq hBq => ?_)
              have hBq' : Below wk.heap.size wk wq := hS0.trans hBq
              refine ⟨_, rfl, hBq', ?_⟩
              have HBq := Lib.hid hBq'
              clear hBq' hBq hHeld
              have hHeld := HBq.out
              try simp only [Act.put, List.getElem_toArray, List.getElem_cons_succ, List.getElem_cons_zero, List.setIfInBounds_toArray, List.set_cons_zero, List.set_cons_succ]
              refine wpAnyH_take (i := 13) (v := .bool (refAgreeB ac bc xa xb)) rfl (by kernel_rfl) (by kernel_rfl) (by kernel_rfl) (fun _ _ _ h => h) (Or.inl ⟨by rfl, ?_⟩) hHeld ?_
              · intro w' hSw; go_simp
              try simp only [Act.put, List.getElem_toArray, List.getElem_cons_succ, List.getElem_cons_zero, List.setIfInBounds_toArray, List.set_cons_zero, List.set_cons_succ]
              refine wpAnyH_done (by kernel_rfl) ?_ _
              clear hHeld
              have HBq2 := Lib.hid (HBk.out.trans (HBq.out.mono (by omega)))
              have hzq := HBq.out.size
              rw [Hmet.out]
              cases hbv : agreeR ac bc xa xb
              · have Hsk2 : Hid (X ++ ((lb.take (k + 1)).filter (agreeR ac bc xa)).map (fun y => xa ++ pickL y (placesL (restC ac bc) bc)) = XK) := Lib.hid (by rw [Hsk.out, hbv, ← HXK.out]; simp)
                have Hok2 := Lib.hid (Hok.out.kept HBq.out)
                clear hbv Hsk
                go_wp2_with fail
                go_roundw
                case rel => exact ⟨k + 1, by omega, by go_num, by rw [Hsk2.out]; exact Hok2.out, HBq2.out⟩
                case measure => simp [intOf]; omega
              · have Hsk2 : Hid (X ++ ((lb.take (k + 1)).filter (agreeR ac bc xa)).map (fun y => xa ++ pickL y (placesL (restC ac bc) bc)) = XK ++ [xa ++ pickL xb (placesL (restC ac bc) bc)]) := Lib.hid (by rw [Hsk.out, hbv, ← HXK.out, List.append_assoc]; rfl)
                have hxa : xa.length ≤ 32 := by rw [Hxl.out]; exact hmca
                obtain ⟨vx, wx, hrx, hox, hax⟩ := appVL (Own.nil V.enc 24 3 wq.heap.size wq) (Sl.below R1.out Row1.loc HBq2.out (by omega)) (by simp; omega) (Nat.le_refl _)
                rw [List.nil_append] at hox
                have hBx : Below wq.heap.size wq wx := hax.below (Nat.le_refl _) (fun k e => by cases e)
                have HBx := Lib.hid hBx
                have Hox := Lib.hid hox
                have Hrx := Lib.hid hrx
                have hzx := hBx.size
                have Gk := G1.out wq HBq2.out
                clear hrx hox hax hBx hbv Hsk c0 c1 d0 d1
                obtain ⟨c0, c1⟩ := (He1.out.below HBq2.out (by omega)).cells.c2
                simp only [Nat.zero_add] at c1
                go_wp2_with (at_builtin; refine AtApp.of ?_)
                refine AtApp.go Hrx.out rfl rfl rfl rfl ?_
                obtain ⟨px, qx, rfl⟩ := Own.slice Hox.out
                have HB9x := Lib.hid (HBq2.out.trans (HBx.out.mono (by omega)))
                clear c0 c1 Gk
                go_upto_region 25 with fail
                have HB9d : Hid (Below w9.heap.size w9 wx.drew) := Lib.hid HB9x.out.drew
                have Hoxd : Hid (OwnV wq.heap.size wx.drew (.slice px xa.length qx) xa) := Lib.hid (Own.kept Hox.out ((Below.refl _ _).drew))
                have HBqd : Hid (Below wq.heap.size wq wx.drew) := Lib.hid HBx.out.drew
                have hzd : wq.heap.size ≤ wx.drew.heap.size := hzx
                have hS0 : Only (fun z => (Value.slice px xa.length qx).ownBlock = some z) wx.drew wx.drew := Only.refl _ _
                refine wp_region_held_drew (S := fun w' => Only (fun z => (Value.slice px xa.length qx).ownBlock = some z) wx.drew w') (by kernel_rfl) hS0 (fun hHeld => ?_)
                clear hS0
                generalize wx.drew = wy at *
                have HSB : Hid (∀ w', Only (fun z => (Value.slice px xa.length qx).ownBlock = some z) wy w' → Below w9.heap.size w9 w') := Lib.hid (fun w' h => HB9d.out.trans (h.below (by omega) (fun z hz => by have := (Own.lt Hoxd.out z hz).1; omega)))
                refine wpAnyH_take (i := 0) (v := .slice px xa.length qx) rfl (by kernel_rfl) (by kernel_rfl) (by kernel_rfl) (fun _ _ _ h => h) (Or.inl ⟨by rfl, ?_⟩) hHeld ?_
                · intro w' hSw; go_simp
                try simp only [Act.put, List.getElem_toArray, List.getElem_cons_succ, List.getElem_cons_zero, List.setIfInBounds_toArray, List.set_cons_zero, List.set_cons_succ]
                refine wpAnyH_take (i := 1) (v := .pointer (some ⟨w.heap.size + 1, 1, none⟩)) rfl (by kernel_rfl) (by kernel_rfl) (by kernel_rfl) (fun _ _ _ h => h) (Or.inl ⟨by rfl, ?_⟩) hHeld ?_
                · intro w' hSw; go_simp
                try simp only [Act.put, List.getElem_toArray, List.getElem_cons_succ, List.getElem_cons_zero, List.setIfInBounds_toArray, List.set_cons_zero, List.set_cons_succ]
                refine wpAnyH_take (i := 2) (v := .slice (some ⟨b4, o4, none⟩) lb.length bv2) rfl (by kernel_rfl) (by kernel_rfl) (by kernel_rfl) (fun _ _ _ h => h) (Or.inl ⟨by rfl, ?_⟩) hHeld ?_
                · intro w' hSw; obtain ⟨z0, z1⟩ := (He2.out.below (HSB.out w' hSw) (by omega)).cells.c2; simp only [Nat.zero_add] at z1; go_simp
                try simp only [Act.put, List.getElem_toArray, List.getElem_cons_succ, List.getElem_cons_zero, List.setIfInBounds_toArray, List.set_cons_zero, List.set_cons_succ]
                refine wpAnyH_take (i := 3) (v := .int .i64 ((k : Int))) rfl (by kernel_rfl) (by kernel_rfl) (by kernel_rfl) (fun _ _ _ h => h) (Or.inl ⟨by rfl, ?_⟩) hHeld ?_
                · intro w' hSw; go_simp
                try simp only [Act.put, List.getElem_toArray, List.getElem_cons_succ, List.getElem_cons_zero, List.setIfInBounds_toArray, List.set_cons_zero, List.set_cons_succ]
                refine wpAnyH_take (i := 4) (v := .pointer (some ⟨b4, o4 + k, none⟩)) rfl (by kernel_rfl) (by kernel_rfl) (by kernel_rfl) (fun _ _ _ h => h) (Or.inl ⟨by rfl, ?_⟩) hHeld ?_
                · intro w' hSw; go_simp
                try simp only [Act.put, List.getElem_toArray, List.getElem_cons_succ, List.getElem_cons_zero, List.setIfInBounds_toArray, List.set_cons_zero, List.set_cons_succ]
                refine wpAnyH_take (i := 5) (v := .slice p2 xb.length q2) rfl (by kernel_rfl) (by kernel_rfl) (by kernel_rfl) (fun _ _ _ h => h) (Or.inl ⟨by rfl, ?_⟩) hHeld ?_
                · intro w' hSw; have kx := G2.out w' (HSB.out w' hSw); go_simp
                try simp only [Act.put, List.getElem_toArray, List.getElem_cons_succ, List.getElem_cons_zero, List.setIfInBounds_toArray, List.set_cons_zero, List.set_cons_succ]
                refine wpAnyH_take (i := 6) (v := .slice po (restC ac bc).length co) rfl (by kernel_rfl) (by kernel_rfl) (by kernel_rfl) (fun _ _ _ h => h) (Or.inl ⟨by rfl, ?_⟩) hHeld ?_
                · intro w' hSw; go_simp
                try simp only [Act.put, List.getElem_toArray, List.getElem_cons_succ, List.getElem_cons_zero, List.setIfInBounds_toArray, List.set_cons_zero, List.set_cons_succ]
                refine wpAnyH_take (i := 7) (v := .pointer (some ⟨w.heap.size + 1, 0, none⟩)) rfl (by kernel_rfl) (by kernel_rfl) (by kernel_rfl) (fun _ _ _ h => h) (Or.inl ⟨by rfl, ?_⟩) hHeld ?_
                · intro w' hSw; go_simp
                try simp only [Act.put, List.getElem_toArray, List.getElem_cons_succ, List.getElem_cons_zero, List.setIfInBounds_toArray, List.set_cons_zero, List.set_cons_succ]
                refine wpAnyH_take (i := 8) (v := .slice pb bc.length cb) rfl (by kernel_rfl) (by kernel_rfl) (by kernel_rfl) (fun _ _ _ h => h) (Or.inl ⟨by rfl, ?_⟩) hHeld ?_
                · intro w' hSw; obtain ⟨z0, z1⟩ := (He2.out.below (HSB.out w' hSw) (by omega)).cells.c2; simp only [Nat.zero_add] at z1; go_simp
                try simp only [Act.put, List.getElem_toArray, List.getElem_cons_succ, List.getElem_cons_zero, List.setIfInBounds_toArray, List.set_cons_zero, List.set_cons_succ]
                refine wpAnyH_ready (rs := [9]) (by kernel_rfl) (by simp) ?_
                refine allCall (f := 79) (args := #[.slice p2 xb.length q2, .slice po (restC ac bc).length co, .slice pb bc.length cb]) rfl (by kernel_rfl) (by kernel_rfl) ?_ AllReadyH.nil
                refine refPick_any lrb hrb w8.heap.size wo.heap.size lcb hcb xb (restC ac bc) bc _ _ _ wy (Sl.below R2.out Row1.loc HB9d.out (by omega)) (by omega) (Sl.below Hs9b.out Strs.loc HB9d.out (by omega)) (by omega) (Sl.below Hb.out Strs.loc (HW9.out.trans (HB9d.out.mono (by omega))) hhb) (by omega) (within_rest ac bc) Hyl.out (by omega) _ (fun wz1 vq hBz hoq => ?_)
                obtain ⟨py, hpy⟩ : ∃ py, pickL xb (placesL (restC ac bc) bc) = py := ⟨_, rfl⟩
                have hpyl : py.length ≤ 32 := by rw [← hpy, pick_len]; omega
                rw [hpy] at hoq Hsk2
                have hzz1 := hBz.size
                obtain ⟨vz, wz, hrz, hoz, haz⟩ := appVL (Own.kept Hoxd.out hBz) (OwnV.sl hoq) (by omega) (by omega)
                have hOz : Only (fun z => (Value.slice px xa.length qx).ownBlock = some z) wy wz := (Below.only hBz).trans ⟨haz.grown.os, haz.grown.tape, haz.grown.output, haz.grown.size, fun q hq hA => haz.grown.block q hq (fun e => hA e.symm)⟩
                have HOz := Lib.hid hOz
                have Hoz := Lib.hid hoz
                have Hrz := Lib.hid hrz
                obtain ⟨pz, qz, rfl⟩ := Own.slice hoz
                obtain ⟨pq, qq, rfl⟩ := Own.slice hoq
                have HBqz := Lib.hid (HBqd.out.trans (hOz.below (by omega) (fun z hz => (Own.lt Hoxd.out z hz).1)))
                refine ⟨_, rfl, Below.only hBz, ?_⟩
                clear hHeld hBz hoq hoz haz hrz hOz
                try simp only [Act.put, List.getElem_toArray, List.getElem_cons_succ, List.getElem_cons_zero, List.setIfInBounds_toArray, List.set_cons_zero, List.set_cons_succ]
                refine wpAnyH_ready (rs := [10]) (by kernel_rfl) (by simp) ?_
                refine allVal rfl (by kernel_rfl) (execApp Hrz.out rfl (by kernel_rfl) (by kernel_rfl)) HOz.out ?_ AllReadyH.nil
                have hHeld := HOz.out
                try simp only [Act.put, List.getElem_toArray, List.getElem_cons_succ, List.getElem_cons_zero, List.setIfInBounds_toArray, List.set_cons_zero, List.set_cons_succ]
                refine wpAnyH_take (i := 11) (v := .slice pz (xa ++ py).length qz) rfl (by kernel_rfl) (by kernel_rfl) (by kernel_rfl) (fun _ _ _ h => h) (Or.inl ⟨by rfl, ?_⟩) hHeld ?_
                · intro w' hSw; go_simp
                try simp only [Act.put, List.getElem_toArray, List.getElem_cons_succ, List.getElem_cons_zero, List.setIfInBounds_toArray, List.set_cons_zero, List.set_cons_succ]
                refine wpAnyH_done (by kernel_rfl) ?_ _
                clear hHeld
                have Hoz2 := Lib.hid Hoz.out
                have hBkz : Below wk.heap.size wk wz := HBq.out.trans (HBqz.out.mono (by omega))
                have Hokz := Lib.hid (Hok.out.kept hBkz)
                have hzz := hBkz.size
                obtain ⟨v3, w3, hr3, ho3, ha3⟩ := LR.snoc Hokz.out (Nat.zero_le wq.heap.size) pz qz (xa ++ py) (OwnV.sl Hoz.out) (Nat.le_refl _) (fun q e => .inl (by have := (Hok.out.lt q e).2; omega)) rfl (by omega) (by omega)
                have HO3 := Lib.hid ho3
                have HB3 := Lib.hid ((HBk.out.trans (hBkz.mono (by omega))).trans (ha3.below (B := w9.heap.size) (by omega) (fun q e => (Hok.out.lt q e).1)))
                rw [List.length_append] at hr3
                have Hr3 := Lib.hid hr3
                clear ho3 ha3 hr3 hBkz
                go_wp2_with (at_builtin; refine AtApp.of ?_)
                refine AtApp.go Hr3.out rfl rfl rfl rfl ?_
                go_wp2_with fail
                go_roundw
                case rel => exact ⟨k + 1, by omega, by go_num, by rw [Hsk2.out]; exact HO3.out, HB3.out⟩
                case measure => simp [intOf]; omega
            · obtain rfl : k = lb.length := by omega
              have llk : ¬ ((lb.length : Nat) : Int) < (lb.length : Int) := by omega
              have hO := Hok.out
              rw [List.take_length, ← Hst.out] at hO
              have HO := Lib.hid hO
              clear hO Hok
              go_wp2_with fail
              go_roundw
              case rel => exact ⟨i + 1, by omega, by go_num, HO.out, HBk.out⟩
              case measure => simp [intOf]; omega
        · obtain rfl : i = la.length := by omega
          have llt : ¬ ((la.length : Nat) : Int) < (la.length : Int) := by omega
          have hO := Hoi.out
          rw [List.take_length] at hO hpi
          have HO := Lib.hid hO
          clear hO
          have hll2 : (joinL ac la bc lb).length ≤ 1000000000000 := Nat.le_trans (joinL_len ac la bc lb) hcapJ
          have HBm := Lib.hid (HB69.out.trans (HBi.out.mono (by omega)))
          have HBwm := Lib.hid (HW9.out.trans (HBi.out.mono (by omega)))
          subst hpi
          go_wp2_with fail
          obtain ⟨wm, ewm⟩ : ∃ x, x = wi := ⟨_, rfl⟩
          subst ewm
          refine refMadeP_any 0 wm.heap.size w6.heap.size w9.heap.size (joinCols ac bc) _ _ (joinL ac la bc lb) _ wm (Sl.below Hc9.out Strs.loc HBi.out (Nat.le_refl _)) (by omega) (HO.out.rws (Nat.zero_le _)) (Nat.le_refl _) hll2 (fun x hx => by
            obtain ⟨a, ha, hx⟩ := List.mem_flatMap.1 hx
            obtain ⟨y, hy, rfl⟩ := List.mem_map.1 hx
            rw [List.length_append, pick_len, may_len Hm.out a ha]; omega) (fun x hx => by
            obtain ⟨a, ha, hx⟩ := List.mem_flatMap.1 hx
            obtain ⟨y, hy, rfl⟩ := List.mem_map.1 hx
            intro z hz
            rcases List.mem_append.1 hz with hz | hz
            · exact Hras.out a ha z hz
            · exact pick_str (Hrbs.out y (List.mem_filter.1 hy).1) z hz) _ (fun w7 cv7 lv7 hB7 hT7 hO7 => ?_)
          generalize hE : madeErr (joinCols ac bc) (joinL ac la bc lb) = err at *
          generalize okL err (joinCols ac bc) = oc at *
          generalize okL err (relCanon (joinL ac la bc lb)) = ol at *
          obtain ⟨p7, q7, rfl, -, -, -, -⟩ := hT7.form
          obtain ⟨p8, q8, rfl, -, -, -, -⟩ := hO7.form
          have hzm := HBm.out.size
          have hB67 : Below w6.heap.size w6 w7 := HBm.out.trans (hB7.mono hzm)
          have hb7 := Hd3.out.below hB67 hld
          obtain ⟨e0, e1⟩ := hb7.cells.c2
          have f0 := hb7.free 0
          have f1 := hb7.free 1
          simp only [Nat.zero_add] at e1
          obtain ⟨t1, t2, t3⟩ := refTail (pc := p7) (pr := p8) (nc := oc.length) (nr := ol.length) (qc := q7) (qr := q8) hb7
          have hsz7 : w6.heap.size ≤ w7.heap.size := hB67.size
          have hwm : wm.heap.size ≤ w7.heap.size := hB7.size
          have hr := HR.out _ _ _ (((HW6.out.trans (hB67.mono (by omega))).setCell (p := ⟨w.heap.size + 1 + 1, 0, none⟩) (by show w.heap.size ≤ w.heap.size + 1 + 1; omega) (.slice p7 oc.length q7)).setCell (p := ⟨w.heap.size + 1 + 1, 1, none⟩) (by show w.heap.size ≤ w.heap.size + 1 + 1; omega) (.slice p8 ol.length q8)) (Sl.mono (Sl.agree hT7 Strs.loc (t2 _ _ (.inl (by omega)))) Strs.loc (by omega) (by have h1 : w9.heap.size ≤ wm.heap.size := hzi; have h2 : wm.heap.size ≤ w7.heap.size := hwm; have h3 := t3; omega)) (Sl.mono (Sl.agree hO7 rowE_loc (t2 _ _ (.inl (by omega)))) rowE_loc (by omega) (Nat.le_of_eq t3.symm))
          have Hr := Lib.hid hr
          have Ht := Lib.hid t1
          clear hr t1 t2 t3 hb7 hB67 hB7 hT7 hO7
          go_wp2_with fail
          exact ret_cell_tmp rfl rfl Ht.out rfl rfl Hr.out

end Go.Proofs.Ytpncblagjkbemaa
end

/- What is too great for the law; the document's relation of the program's. -/
section
namespace Go.Proofs.Ytpncblagjkbemaa
open Go.RowKit
set_option linter.unusedVariables false
set_option linter.unusedSimpArgs false

def greatB (cols : List S) (l : List (List V)) : Bool := decide (60 < cols.length) || decide (150 < l.length) || l.any fun x => decide (60 < x.length)
set_option maxRecDepth 100000 in
set_option maxHeartbeats 4000000 in
theorem great_any (lo hi : Nat) (cols : List S) (ac : Option Addr) (cc : Nat) (l : List (List V)) (lv : Value) (w : World) (hv : Rws lo hi w lv l) (R : Ending → World → Prop) (hR : R (.returned (.bool (greatB cols l))) w) :
    Calls Try.prog 22 #[.slice ac cols.length cc, lv] w R := by
  have HR := Lib.hid hR
  obtain ⟨av, cv, rfl, -, hcm, -, hc⟩ := hv.form
  have Hc := Lib.hid hc
  clear hR hv hc
  obtain ⟨q, hq⟩ : ∃ q, q = cols.length := ⟨_, rfl⟩
  rw [← hq]
  have Hq := Lib.hid hq
  clear hq
  go_enter Try.func22, Try.ntmps22
  by_cases h1 : 60 < q
  · have c1 : (60 : Int) < (q : Int) := by omega
    have hr := HR.out
    have e : greatB cols l = true := by unfold greatB; rw [decide_eq_true (by rw [← Hq.out]; exact h1)]; rfl
    rw [e] at hr
    clear e
    go_wp2_with fail
    first | exact hr | exact fin hr rfl
  · have c1 : ¬ (60 : Int) < (q : Int) := by omega
    by_cases h2 : 150 < l.length
    · have c2 : (150 : Int) < (l.length : Int) := by omega
      have hr := HR.out
      have e : greatB cols l = true := by unfold greatB; rw [decide_eq_true h2]; simp
      rw [e] at hr
      clear e
      go_wp2_with fail
      first | exact hr | exact fin hr rfl
    · have c2 : ¬ (150 : Int) < (l.length : Int) := by omega
      have Hcl : Hid (decide (60 < cols.length) = false) := Lib.hid (decide_eq_false (by rw [← Hq.out]; exact h1))
      clear h1
      go_wp2_with fail
      go_loop [16] (fun t16 => ∃ k : Nat, k ≤ l.length ∧ t16 = .int .i64 k ∧ ∀ i, i < k → (l.getD i []).length ≤ 60) (fun t16 => l.length - (intOf t16).toNat)
      case atStart => exact ⟨0, Nat.zero_le _, rfl, fun i h => absurd h (Nat.not_lt_zero _)⟩
      case round =>
        obtain ⟨k, hk, rfl, hno⟩ := hrel
        have Hno := Lib.hid hno
        clear hno
        have kk0 : (0 : Int) ≤ (k : Int) := by omega
        by_cases hlt : k < l.length
        · obtain ⟨b, off, rfl, hb1, hb2, hcc⟩ := Hc.out k hlt
          obtain ⟨cs, _, hcs, sv, rfl, hsv⟩ := hcc k hlt
          have g0 := hcs.c1
          rw [Nat.mul_one] at g0
          have kkl : (k : Int) < (l.length : Int) := by omega
          have Hx : Hid (l.getD k [] = l[k]) := Lib.hid (getDS l _ k hlt)
          have Hbadk : Hid (60 < l[k].length → greatB cols l = true) := Lib.hid (fun h => by
            have : (l.any fun x => decide (60 < x.length)) = true := by
              rw [List.any_eq_true]
              exact ⟨l[k], List.getElem_mem hlt, by simpa using h⟩
            unfold greatB
            rw [this]; simp)
          obtain ⟨ay, cy, rfl, -, -, -, -⟩ := hsv.form
          clear hcc hcs hsv
          generalize l[k] = x at *
          by_cases h3 : 60 < x.length
          · have c3 : (60 : Int) < (x.length : Int) := by omega
            have hr := HR.out
            rw [Hbadk.out h3] at hr
            clear h3
            go_wp2_with fail
            first | exact hr | exact fin hr rfl
          · have c3 : ¬ (60 : Int) < (x.length : Int) := by omega
            go_wp2_with fail
            go_round
            case rel => exact ⟨k + 1, by omega, by go_num, fun i hi => by
              by_cases e : i = k
              · subst e; rw [Hx.out]; omega
              · exact Hno.out i (by omega)⟩
            case measure => simp [intOf]; omega
        · obtain rfl : k = l.length := by omega
          have llt : ¬ ((l.length : Nat) : Int) < (l.length : Int) := by omega
          have hr := HR.out
          have e : greatB cols l = false := by
            unfold greatB
            rw [Hcl.out, decide_eq_false h2]
            have : (l.any fun x => decide (60 < x.length)) = false := by
              rw [List.any_eq_false]
              intro x hx
              obtain ⟨i, hi, rfl⟩ := List.getElem_of_mem hx
              have := Hno.out i hi
              rw [getDS l _ i hi] at this
              simp; omega
            rw [this]; rfl
          rw [e] at hr
          clear e
          go_wp2_with fail
          first | exact hr | exact fin hr rfl
set_option maxRecDepth 100000 in
set_option maxHeartbeats 4000000 in
theorem ref_any (ac av : Option Addr) (nc cc nv cv : Nat) (w : World) (R : Ending → World → Prop)
    (hR : ∀ w', Below w.heap.size w w' → R (.returned (.agg #[.slice ac nc cc, .slice av nv cv])) w') :
    Calls Try.prog 32 #[.agg #[.slice ac nc cc, .slice av nv cv]] w R := by
  have HR := Lib.hid hR
  clear hR
  have hB0 := alloc_below w (.cells #[.slice ac nc cc, .slice av nv cv] 34)
  have hb0 := Blk.new w [.slice ac nc cc, .slice av nv cv] 34 rfl
  go_enter Try.func32, Try.ntmps32
  go_upto_region 1 with fail
  have hB1 := hB0.alloc hB0.size (.cells #[.slice none 0 0, .slice none 0 0] 53)
  have hb1 : Blk _ (w.heap.size + 1) [.slice none 0 0, .slice none 0 0] 53 := Blk.new (w.alloc (.cells #[.slice ac nc cc, .slice av nv cv] 34)) [.slice none 0 0, .slice none 0 0] 53 (by show _ = (w.heap.push _).size; rw [Array.size_push])
  have hc0 := hb0.alloc (.cells #[.slice none 0 0, .slice none 0 0] 53)
  generalize (w.alloc (.cells #[.slice ac nc cc, .slice av nv cv] 34)).alloc (.cells #[.slice none 0 0, .slice none 0 0] 53) = w1 at *
  obtain ⟨d0, d1⟩ := hc0.cells.c2
  simp only [Nat.zero_add] at d1
  obtain ⟨e0, e1⟩ := hb1.cells.c2
  simp only [Nat.zero_add] at e1
  have f0 := hb1.free 0
  have f1 := hb1.free 1
  have Hrv := Lib.hid (((hb1.set 0 (.slice ac nc cc)).set 1 (.slice av nv cv)).cells.runVar (P := Try.prog) (t := 53) (fun _ => by kernel_rfl) (fun _ => by kernel_rfl))
  have Hr := Lib.hid (HR.out _ ((hB1.setCell (p := ⟨w.heap.size + 1, 0, none⟩) (Nat.le_succ _) (.slice ac nc cc)).setCell (p := ⟨w.heap.size + 1, 1, none⟩) (Nat.le_succ _) (.slice av nv cv)))
  clear hb0 hB0 hB1 hb1 hc0
  go_wp2_with fail
  exact ret_cell rfl rfl Hrv.out rfl Hr.out
end Go.Proofs.Ytpncblagjkbemaa
end

/- A relation's own copy. -/
section
namespace Go.Proofs.Ytpncblagjkbemaa
open Go.RowKit
set_option linter.unusedVariables false
set_option linter.unusedSimpArgs false

theorem Own.apartT {α β : Type} {enc : α → List Value} {enc' : β → List Value} {e e' : TypeId} {size size' lo lo' : Nat} {w : World} {v v' : Value} {xs : List α} {ys : List β} (h : Own enc e size lo w v xs) (h' : Own enc' e' size' lo' w v' ys) (ht : e ≠ e') {k : Nat} (hk : v.ownBlock = some k) : v'.ownBlock ≠ some k := by
  rcases h.2 with ⟨rfl, -⟩ | ⟨g, cap, cur, rfl, -, hg, -⟩
  · cases hk
  · have e1 : g = k := by simpa [Value.ownBlock] using hk
    subst e1
    exact Own.ne_blk h' (cs := cur.toList) (by unfold Blk; simpa using hg) ht
set_option maxRecDepth 100000 in
set_option maxHeartbeats 4000000 in
theorem lawOwn_any (lo hi lc hc : Nat) (cols : List S) (ac : Option Addr) (cc : Nat) (l : List (List V)) (lv : Value) (w : World) (hcols : Strs lc hc w (.slice ac cols.length cc) cols) (hhc : hc ≤ w.heap.size) (hv : Rws lo hi w lv l) (hhi : hi ≤ w.heap.size) (hlen : l.length ≤ 1000000000000) (hcl : cols.length ≤ 1000000000000) (hrl : ∀ x ∈ l, x.length ≤ 1000000000000) (R : Ending → World → Prop)
    (hR : ∀ w' cv2 lv2, Below w.heap.size w w' → Strs w.heap.size w'.heap.size w' cv2 cols → Rws w.heap.size w'.heap.size w' lv2 l → R (.returned (.agg #[cv2, lv2])) w') :
    Calls Try.prog 23 #[.agg #[.slice ac cols.length cc, lv]] w R := by
  have HR := Lib.hid hR
  have Hv := Lib.hid hv
  have Hc := Lib.hid hcols
  have Hrl := Lib.hid hrl
  obtain ⟨av, cv, rfl, -, -, -, -⟩ := hv.form
  clear hR hv hcols hrl
  obtain ⟨q, hq⟩ : ∃ q, q = cols.length := ⟨_, rfl⟩
  rw [← hq]
  have Hq := Lib.hid hq
  clear hq
  go_enter Try.func23, Try.ntmps23
  go_upto_region 2 with fail
  obtain ⟨w0, hw0⟩ : ∃ w0, w0 = ((w.alloc (.cells #[.slice ac q cc, .slice av l.length cv] 34)).alloc (.cells #[.slice none 0 0, .slice none 0 0] 34)).alloc (.cells #[.slice none 0 0, .slice none 0 0] 34) := ⟨_, rfl⟩
  have s1 : (w.alloc (.cells #[.slice ac q cc, .slice av l.length cv] 34)).heap.size = w.heap.size + 1 := Array.size_push _
  have s2 : ((w.alloc (.cells #[.slice ac q cc, .slice av l.length cv] 34)).alloc (.cells #[.slice none 0 0, .slice none 0 0] 34)).heap.size = w.heap.size + 1 + 1 := (Array.size_push _).trans (by rw [s1])
  have hB0 : Below w.heap.size w w0 := by
    rw [hw0]
    exact ((alloc_below w _).alloc (by rw [s1]; omega) _).alloc (by rw [s2]; omega) _
  have hz0 : w.heap.size + 1 + 1 < w0.heap.size := by
    rw [hw0]
    show _ < (Array.push _ _).size
    rw [Array.size_push, s2]; omega
  have hb0 : Blk w0 w.heap.size [.slice ac q cc, .slice av l.length cv] 34 := by
    rw [hw0]
    exact ((Blk.new w [.slice ac q cc, .slice av l.length cv] _ rfl).alloc _).alloc _
  have hb1 : Blk w0 (w.heap.size + 1) [.slice none 0 0, .slice none 0 0] 34 := by
    rw [hw0]
    exact (Blk.new _ [.slice none 0 0, .slice none 0 0] _ s1.symm).alloc _
  have hb2 : Blk w0 (w.heap.size + 1 + 1) [.slice none 0 0, .slice none 0 0] 34 := by
    rw [hw0]
    exact Blk.new _ [.slice none 0 0, .slice none 0 0] _ s2.symm
  rw [← hw0]
  clear hw0 s1 s2
  have Hb0 := Lib.hid hb0
  have Hb1 := Lib.hid hb1
  have Hb2 := Lib.hid hb2
  have HB0 := Lib.hid hB0
  obtain ⟨d0, d1⟩ := hb0.cells.c2
  simp only [Nat.zero_add] at d1
  obtain ⟨e0, e1⟩ := hb2.cells.c2
  simp only [Nat.zero_add] at e1
  have f0 := hb2.free 0
  have f1 := hb2.free 1
  obtain ⟨v1, w1, hr1, ho1, ha1⟩ := appTL (lo := w0.heap.size) (Own.nil _ _ _ _ w0) (Sl.below Hc.out Strs.loc hB0 hhc) (by simp only [List.length_nil]; omega) (Nat.le_refl _)
  rw [List.nil_append] at ho1
  have hB1 : Below w0.heap.size w0 w1 := ha1.below (Nat.le_refl _) (fun k e => by cases e)
  have hc2 := Hb2.out.below hB1 hz0
  obtain ⟨p1, c1, ev1⟩ := Own.slice ho1
  rw [← Hq.out] at ev1
  subst ev1
  have Ho1 := Lib.hid ho1
  have HB1 := Lib.hid hB1
  have Hc2 := Lib.hid hc2
  have g0 := hc2.free 0
  obtain ⟨j0, j1⟩ := hc2.cells.c2
  simp only [Nat.zero_add] at j1
  rw [← Hq.out] at hr1
  have h2b : Blk (w1.setCell ⟨w.heap.size + 1 + 1, 0, none⟩ (.slice p1 q c1)) (w.heap.size + 1 + 1) [.slice p1 q c1, .slice none 0 0] 34 := hc2.set 0 _
  have h2o : OwnT w0.heap.size (w1.setCell ⟨w.heap.size + 1 + 1, 0, none⟩ (.slice p1 q c1)) (.slice p1 q c1) cols := Own.setOther ho1 (fun e => by
    have := (Own.lt ho1 _ e).1
    simp only at this
    omega) _
  have h2B : Below (w.heap.size + 1 + 1) w0 (w1.setCell ⟨w.heap.size + 1 + 1, 0, none⟩ (.slice p1 q c1)) := (hB1.mono (by show w.heap.size + 1 + 1 ≤ _; omega)).setCell (p := ⟨w.heap.size + 1 + 1, 0, none⟩) (Nat.le_refl _) _
  have H2b := Lib.hid h2b
  have H2o := Lib.hid h2o
  have H2B := Lib.hid h2B
  have hb0c := Hb0.out.below h2B (by omega)
  obtain ⟨d0', d1'⟩ := hb0c.cells.c2
  simp only [Nat.zero_add] at d1'
  clear hb0 hb1 hb2 hB0 ho1 ha1 hB1 hc2 h2b h2o h2B hb0c
  go_wp2_with (at_builtin; refine AtApp.of ?_)
  refine AtApp.go hr1 rfl rfl rfl rfl ?_
  go_upto_region 3 with fail
  generalize w1.setCell ⟨w.heap.size + 1 + 1, 0, none⟩ (.slice p1 q c1) = w2 at *
  clear d0 d1 e0 e1 f0 f1 g0 hr1 j0 j1
  go_wp2_with fail
  go_loopw [15] (fun t15 wr => ∃ (k : Nat) (hs : List Value) (vk : Value), k ≤ l.length ∧ t15 = .int .i64 k ∧ Blk wr (w.heap.size + 1 + 1) [.slice p1 q c1, vk] 34 ∧ OwnT w0.heap.size wr (.slice p1 q c1) cols ∧ OwnR w0.heap.size wr vk hs (l.take k) ∧ Below (w.heap.size + 1 + 1) w0 wr ∧ w0.heap.size ≤ wr.heap.size) (fun t15 _ => l.length - (intOf t15).toNat)
  case atStart => exact ⟨0, [], _, Nat.zero_le _, rfl, H2b.out, H2o.out, OwnR.nil _ _, H2B.out, H2B.out.size⟩
  case round =>
    obtain ⟨k, hs, vk, hk, rfl, hbk, hok, hrk, hB, hz⟩ := hrel
    obtain ⟨wo, ewo⟩ : ∃ x, x = wr := ⟨_, rfl⟩
    subst ewo
    have Hbk := Lib.hid hbk
    have Hok := Lib.hid hok
    have Hrk := Lib.hid hrk
    have HB := Lib.hid hB
    have kk0 : (0 : Int) ≤ (k : Int) := by omega
    have HBw := Lib.hid (HB0.out.trans (hB.mono (by omega)))
    obtain ⟨po, co, epo⟩ := Own.slice hrk.own
    subst epo
    have hb0c := Hb0.out.below hB (by omega)
    have hb2l := hbk.lt
    obtain ⟨d0, d1⟩ := hb0c.cells.c2
    simp only [Nat.zero_add] at d1
    clear hbk hok hrk hB hb0c
    by_cases hlt : k < l.length
    · obtain ⟨ao', cap', e', -, -, -, hc⟩ := (Sl.below Hv.out rowE_loc HBw.out hhi).form
      injection e' with e1 e2 e3
      subst e1 e3
      obtain ⟨b, off, rfl, hb1, hb2, hcc⟩ := hc k hlt
      obtain ⟨cs, _, hcs, sv, rfl, hsv⟩ := hcc k hlt
      have g0 := hcs.c1
      rw [Nat.mul_one] at g0
      have kkl : (k : Int) < (l.length : Int) := by omega
      have hsl : hs.length ≤ k := by
        rw [Hrk.out.len, List.length_take]; omega
      have Hst : Hid (l.take (k + 1) = l.take k ++ [l[k]]) := Lib.hid (List.take_succ_eq_append_getElem hlt)
      have hxl := Hrl.out _ (List.getElem_mem hlt)
      have hslv := hsv
      obtain ⟨ay, cy, rfl, -, -, -, -⟩ := hslv.form
      clear hcc hcs hc hslv
      generalize l[k] = x at *
      obtain ⟨v2, w2', hr2, ho2, ha2⟩ := appVL (lo := wo.heap.size) (Own.nil _ _ _ _ wo) hsv (by simp only [List.length_nil]; omega) (Nat.le_refl _)
      rw [List.nil_append] at ho2
      have hB2 : Below wo.heap.size wo w2' := ha2.below (Nat.le_refl _) (fun k e => by cases e)
      have hzw2 := hB2.size
      have hbk2 := Hbk.out.below hB2 hb2l
      have hrk2 := Hrk.out.kept hB2
      have hok2 := Own.kept Hok.out hB2
      obtain ⟨p2, c2, ev2⟩ := Own.slice ho2
      subst ev2
      obtain ⟨v3, w3, hr3, ho3, ha3⟩ := appH1 hrk2.own p2 x.length c2 rfl (by omega) (by omega)
      have hya : ∀ q, (Value.slice p2 x.length c2).ownBlock = some q → (Value.slice po hs.length co).ownBlock ≠ some q := fun q hq2 e => by
        have h1 := (Own.lt ho2 q hq2).1
        have h2 := (Own.lt Hrk.out.own q e).2
        omega
      have hrk3 := hrk2.snoc (Own.lower ho2 hz) hya ho3 ha3
      rw [← Hst.out] at hrk3
      have hbk3 := ha3.blk hbk2 (Own.ne_blk hrk2.own hbk2 (by decide))
      have hok3 : OwnT w0.heap.size w3 (.slice p1 q c1) cols := Own.same hok2 (fun g hg => ha3.grown.block g (Own.lt hok2 g hg).2 (fun e => Own.apartT hok2 hrk2.own (by decide) hg e.symm))
      have hB3 : Below (w.heap.size + 1 + 1) w0 w3 := (HB.out.trans (hB2.mono (by omega))).trans (ha3.below (by omega) (fun q e => by have := (Own.lt hrk2.own q e).1; omega))
      have hzw3 := hB3.size
      obtain ⟨p3, c3, ev3⟩ := Own.slice ho3
      have el : (hs ++ [Value.slice p2 x.length c2]).length = hs.length + 1 := by simp
      rw [el] at ev3
      subst ev3
      have f1 := hbk3.free 1
      obtain ⟨i0, i1⟩ := hbk2.cells.c2
      simp only [Nat.zero_add] at i1
      obtain ⟨m0, m1⟩ := hbk3.cells.c2
      simp only [Nat.zero_add] at m1
      have hbk4 : Blk (w3.setCell ⟨w.heap.size + 1 + 1, 1, none⟩ (.slice p3 (hs.length + 1) c3)) (w.heap.size + 1 + 1) [.slice p1 q c1, .slice p3 (hs.length + 1) c3] 34 := hbk3.set 1 _
      have hok4 : OwnT w0.heap.size (w3.setCell ⟨w.heap.size + 1 + 1, 1, none⟩ (.slice p3 (hs.length + 1) c3)) (.slice p1 q c1) cols := Own.setOther hok3 (Own.ne_blk hok3 hbk3 (by decide)) _
      have hrk4 := hrk3.setBlk hbk3 (by decide) (by decide) 1 (.slice p3 (hs.length + 1) c3)
      have hB4 := hB3.setCell (p := ⟨w.heap.size + 1 + 1, 1, none⟩) (Nat.le_refl _) (.slice p3 (hs.length + 1) c3)
      have Hbk4 := Lib.hid hbk4
      have Hok4 := Lib.hid hok4
      have Hrk4 := Lib.hid hrk4
      have HB4 := Lib.hid hB4
      clear ho2 ha2 hB2 hbk2 hrk2 hok2 ho3 ha3 hya hrk3 hbk3 hok3 hB3 hbk4 hok4 hrk4 hB4 hsv
      go_wp2_with (at_builtin; refine AtApp.of ?_)
      refine AtApp.go hr2 rfl rfl rfl rfl ?_
      go_wp2_with (at_builtin; refine AtApp.of ?_)
      refine AtApp.go hr3 rfl rfl rfl rfl ?_
      go_wp2_with fail
      go_roundw
      case rel => exact ⟨k + 1, _, _, by omega, by go_num, Hbk4.out, Hok4.out, Hrk4.out, HB4.out, HB4.out.size⟩
      case measure => simp [intOf]; omega
    · obtain rfl : k = l.length := by omega
      have llt : ¬ ((l.length : Nat) : Int) < (l.length : Int) := by omega
      have hb1 := Hb1.out.below HB.out (by omega)
      have hrk := Hrk.out
      rw [List.take_length] at hrk
      have hsl : hs.length = l.length := hrk.len
      rw [hsl] at hrk
      have hb2c := Hbk.out
      rw [hsl] at hb2c
      obtain ⟨k0, k1⟩ := hb1.cells.c2
      simp only [Nat.zero_add] at k1
      have f0 := hb1.free 0
      have f1 := hb1.free 1
      have Hld := Lib.hid (hb2c.cells.runVar (P := Try.prog) (t := 34) (fun _ => by kernel_rfl) (fun _ => by kernel_rfl))
      obtain ⟨i0, i1⟩ := hb2c.cells.c2
      simp only [Nat.zero_add] at i1
      have hb1' := hb1.set 0 (.slice p1 q c1)
      have Hrv := Lib.hid ((hb1'.set 1 (.slice po l.length co)).cells.runVar (P := Try.prog) (t := 34) (fun _ => by kernel_rfl) (fun _ => by kernel_rfl))
      have hB5 := (HBw.out.setCell (p := ⟨w.heap.size + 1, 0, none⟩) (Nat.le_succ _) (.slice p1 q c1)).setCell (p := ⟨w.heap.size + 1, 1, none⟩) (Nat.le_succ _) (.slice po l.length co)
      have hok5 : OwnT w0.heap.size ((wo.setCell ⟨w.heap.size + 1, 0, none⟩ (.slice p1 q c1)).setCell ⟨w.heap.size + 1, 1, none⟩ (.slice po l.length co)) (.slice p1 q c1) cols := by
        have h1 := Own.setOther Hok.out (Own.ne_blk Hok.out hb1 (by decide)) (p := ⟨w.heap.size + 1, 0, none⟩) (.slice p1 q c1)
        exact Own.setOther h1 (Own.ne_blk h1 hb1' (by decide)) _
      have hrk5 := (hrk.setBlk hb1 (by decide) (by decide) 0 (.slice p1 q c1)).setBlk hb1' (by decide) (by decide) 1 (.slice po l.length co)
      have Hr := Lib.hid (HR.out _ _ _ hB5 ((OwnT.sl hok5).mono Strs.loc (by omega) (Nat.le_refl _)) ((OwnR.rws hrk5).mono rowE_loc (by omega) (Nat.le_refl _)))
      clear hb1 hrk hsl hb2c hb1' hB5 hok5 hrk5
      go_wp2_with fail
      exact ret_cell rfl rfl Hrv.out rfl Hr.out
end Go.Proofs.Ytpncblagjkbemaa
end

/- The document's Same on relations that are alike. (Printed by rown.py.) -/
section
namespace Go.Proofs.Ytpncblagjkbemaa
open Go.RowKit
set_option linter.unusedVariables false
set_option linter.unusedSimpArgs false

theorem cmpR_self (x : List V) : cmpR x x = 0 := by rw [cmpR_cmp.self]
set_option maxRecDepth 100000 in
set_option maxHeartbeats 4000000 in
theorem Same_any (lo hi lo2 hi2 lc hc lc2 hc2 : Nat) (cols : List S) (l : List (List V)) (ca cb la lb : Value) (w : World) (hca : Strs lc hc w ca cols) (hcb : Strs lc2 hc2 w cb cols) (hla : Rws lo hi w la l) (hlb : Rws lo2 hi2 w lb l) (h1 : hc ≤ w.heap.size) (h2 : hc2 ≤ w.heap.size) (h3 : hi ≤ w.heap.size) (h4 : hi2 ≤ w.heap.size) (hrs : ∀ x ∈ l, ∀ a ∈ x, a.s.length ≤ 9223372036854775807) (R : Ending → World → Prop)
    (hR : ∀ w', Below w.heap.size w w' → R (.returned (.bool true)) w') : Calls Try.prog 56 #[.agg #[ca, la], .agg #[cb, lb]] w R := by
  have HR := Lib.hid hR
  have HCa := Lib.hid hca
  have HCb := Lib.hid hcb
  have HLa := Lib.hid hla
  have HLb := Lib.hid hlb
  have Hrs := Lib.hid hrs
  obtain ⟨aca, cca, rfl, -, -, -, -⟩ := hca.form
  obtain ⟨acb, ccb, rfl, -, -, -, -⟩ := hcb.form
  obtain ⟨ala, cla, rfl, -, -, -, -⟩ := hla.form
  obtain ⟨alb, clb, rfl, -, -, -, -⟩ := hlb.form
  have hql := hca.len
  have hml := hla.len
  clear hR hca hcb hla hlb hrs
  obtain ⟨q, hq⟩ : ∃ q, q = cols.length := ⟨_, rfl⟩
  obtain ⟨m, hm⟩ : ∃ m, m = l.length := ⟨_, rfl⟩
  rw [← hq, ← hm]
  rw [← hq] at hql
  rw [← hm] at hml
  have Hq := Lib.hid hq
  have Hm := Lib.hid hm
  clear hq hm
  go_enter Try.func56, Try.ntmps56
  go_upto_region 1 with fail
  obtain ⟨w0, hw0⟩ : ∃ w0, w0 = (w.alloc (.cells #[.slice aca q cca, .slice ala m cla] 53)).alloc (.cells #[.slice acb q ccb, .slice alb m clb] 53) := ⟨_, rfl⟩
  have s1 : (w.alloc (.cells #[.slice aca q cca, .slice ala m cla] 53)).heap.size = w.heap.size + 1 := Array.size_push _
  have hB0 : Below w.heap.size w w0 := by
    rw [hw0]
    exact (alloc_below w _).alloc (by rw [s1]; omega) _
  have hz0 : w.heap.size + 1 < w0.heap.size := by
    rw [hw0]
    show _ < (Array.push _ _).size
    rw [Array.size_push, s1]; omega
  have hb1 : Blk w0 w.heap.size [.slice aca q cca, .slice ala m cla] 53 := by
    rw [hw0]
    exact (Blk.new w [.slice aca q cca, .slice ala m cla] _ rfl).alloc _
  have hb2 : Blk w0 (w.heap.size + 1) [.slice acb q ccb, .slice alb m clb] 53 := by
    rw [hw0]
    exact Blk.new _ [.slice acb q ccb, .slice alb m clb] _ s1.symm
  rw [← hw0]
  clear hw0 s1
  have HB0 := Lib.hid hB0
  have HA := Lib.hid hb1
  have HBb := Lib.hid hb2
  obtain ⟨d0, d1⟩ := hb1.cells.c2
  simp only [Nat.zero_add] at d1
  obtain ⟨e0, e1⟩ := hb2.cells.c2
  simp only [Nat.zero_add] at e1
  clear hB0 hb1 hb2
  go_wp2_with fail
  go_loopw [5] (fun t5 wr => ∃ k : Nat, k ≤ q ∧ t5 = .int .i64 k ∧ Below w0.heap.size w0 wr) (fun t5 _ => q - (intOf t5).toNat)
  case atStart => exact ⟨0, Nat.zero_le _, rfl, Below.refl _ _⟩
  case round =>
    obtain ⟨k, hk, rfl, hB⟩ := hrel
    obtain ⟨wo, ewo⟩ : ∃ x, x = wr := ⟨_, rfl⟩
    subst ewo
    have hz := hB.size
    have HB := Lib.hid hB
    have HBw := Lib.hid (HB0.out.trans (hB.mono (by omega)))
    have kk0 : (0 : Int) ≤ (k : Int) := by omega
    have Hb1 := Lib.hid (HA.out.below hB (by omega))
    have Hb2 := Lib.hid (HBb.out.below hB hz0)
    clear hB d0 d1 e0 e1
    obtain ⟨d0, d1⟩ := Hb1.out.cells.c2
    simp only [Nat.zero_add] at d1
    obtain ⟨e0, e1⟩ := Hb2.out.cells.c2
    simp only [Nat.zero_add] at e1
    by_cases hlt : k < q
    · have hltc : k < cols.length := by rw [← Hq.out]; exact hlt
      obtain ⟨ao', cap', e', -, -, -, hc⟩ := (Sl.below HCa.out Strs.loc HBw.out h1).form
      injection e' with e1' e2' e3'
      subst e1' e3'
      obtain ⟨bx, ox, rfl, hb1, hb2, hcc⟩ := hc k hltc
      obtain ⟨cs, _, hcs, rfl⟩ := hcc k hltc
      have gx := hcs.c1
      rw [Nat.mul_one] at gx
      clear hc hcc hcs
      obtain ⟨ao', cap', e', -, -, -, hc⟩ := (Sl.below HCb.out Strs.loc HBw.out h2).form
      injection e' with e1' e2' e3'
      subst e1' e3'
      obtain ⟨by_, oy, rfl, hb3, hb4, hcc⟩ := hc k hltc
      obtain ⟨cs, _, hcs, rfl⟩ := hcc k hltc
      have gy := hcs.c1
      rw [Nat.mul_one] at gy
      clear hc hcc hcs
      generalize cols[k] = c at *
      have kkl : (k : Int) < (q : Int) := by omega
      go_upto_region 6 with fail
      refine wp_region_held_drew (S := fun w' => w' = wo.drew) (by kernel_rfl) rfl (fun hHeld => ?_)
      refine wpAnyH_take (i := 0) (v := .pointer (some ⟨w.heap.size, 0, none⟩)) rfl (by kernel_rfl) (by kernel_rfl) (by kernel_rfl) (fun _ _ _ h => h) (Or.inl ⟨by rfl, ?_⟩) hHeld ?_
      · intro w' hSw; subst hSw; go_simp <;> omega
      try simp only [Act.put, List.getElem_toArray, List.getElem_cons_succ, List.getElem_cons_zero, List.setIfInBounds_toArray, List.set_cons_zero, List.set_cons_succ]
      refine wpAnyH_take (i := 1) (v := .slice (some ⟨bx, ox, none⟩) q cca) rfl (by kernel_rfl) (by kernel_rfl) (by kernel_rfl) (fun _ _ _ h => h) (Or.inl ⟨by rfl, ?_⟩) hHeld ?_
      · intro w' hSw; subst hSw; have kx := d0; go_simp
      try simp only [Act.put, List.getElem_toArray, List.getElem_cons_succ, List.getElem_cons_zero, List.setIfInBounds_toArray, List.set_cons_zero, List.set_cons_succ]
      refine wpAnyH_take (i := 2) (v := .int .i64 ((k : Int))) rfl (by kernel_rfl) (by kernel_rfl) (by kernel_rfl) (fun _ _ _ h => h) (Or.inl ⟨by rfl, ?_⟩) hHeld ?_
      · intro w' hSw; subst hSw; go_simp <;> omega
      try simp only [Act.put, List.getElem_toArray, List.getElem_cons_succ, List.getElem_cons_zero, List.setIfInBounds_toArray, List.set_cons_zero, List.set_cons_succ]
      refine wpAnyH_take (i := 3) (v := .pointer (some ⟨bx, ox + k, none⟩)) rfl (by kernel_rfl) (by kernel_rfl) (by kernel_rfl) (fun _ _ _ h => h) (Or.inl ⟨by rfl, ?_⟩) hHeld ?_
      · intro w' hSw; subst hSw; go_simp <;> omega
      try simp only [Act.put, List.getElem_toArray, List.getElem_cons_succ, List.getElem_cons_zero, List.setIfInBounds_toArray, List.set_cons_zero, List.set_cons_succ]
      refine wpAnyH_take (i := 4) (v := .string ⟨c.toArray⟩) rfl (by kernel_rfl) (by kernel_rfl) (by kernel_rfl) (fun _ _ _ h => h) (Or.inl ⟨by rfl, ?_⟩) hHeld ?_
      · intro w' hSw; subst hSw; have kx := gx; go_simp
      try simp only [Act.put, List.getElem_toArray, List.getElem_cons_succ, List.getElem_cons_zero, List.setIfInBounds_toArray, List.set_cons_zero, List.set_cons_succ]
      refine wpAnyH_take (i := 5) (v := .pointer (some ⟨w.heap.size + 1, 0, none⟩)) rfl (by kernel_rfl) (by kernel_rfl) (by kernel_rfl) (fun _ _ _ h => h) (Or.inl ⟨by rfl, ?_⟩) hHeld ?_
      · intro w' hSw; subst hSw; go_simp <;> omega
      try simp only [Act.put, List.getElem_toArray, List.getElem_cons_succ, List.getElem_cons_zero, List.setIfInBounds_toArray, List.set_cons_zero, List.set_cons_succ]
      refine wpAnyH_take (i := 6) (v := .slice (some ⟨by_, oy, none⟩) q ccb) rfl (by kernel_rfl) (by kernel_rfl) (by kernel_rfl) (fun _ _ _ h => h) (Or.inl ⟨by rfl, ?_⟩) hHeld ?_
      · intro w' hSw; subst hSw; have kx := e0; go_simp
      try simp only [Act.put, List.getElem_toArray, List.getElem_cons_succ, List.getElem_cons_zero, List.setIfInBounds_toArray, List.set_cons_zero, List.set_cons_succ]
      refine wpAnyH_take (i := 7) (v := .int .i64 ((k : Int))) rfl (by kernel_rfl) (by kernel_rfl) (by kernel_rfl) (fun _ _ _ h => h) (Or.inl ⟨by rfl, ?_⟩) hHeld ?_
      · intro w' hSw; subst hSw; go_simp <;> omega
      try simp only [Act.put, List.getElem_toArray, List.getElem_cons_succ, List.getElem_cons_zero, List.setIfInBounds_toArray, List.set_cons_zero, List.set_cons_succ]
      refine wpAnyH_take (i := 8) (v := .pointer (some ⟨by_, oy + k, none⟩)) rfl (by kernel_rfl) (by kernel_rfl) (by kernel_rfl) (fun _ _ _ h => h) (Or.inl ⟨by rfl, ?_⟩) hHeld ?_
      · intro w' hSw; subst hSw; go_simp <;> omega
      try simp only [Act.put, List.getElem_toArray, List.getElem_cons_succ, List.getElem_cons_zero, List.setIfInBounds_toArray, List.set_cons_zero, List.set_cons_succ]
      refine wpAnyH_take (i := 9) (v := .string ⟨c.toArray⟩) rfl (by kernel_rfl) (by kernel_rfl) (by kernel_rfl) (fun _ _ _ h => h) (Or.inl ⟨by rfl, ?_⟩) hHeld ?_
      · intro w' hSw; subst hSw; have kx := gy; go_simp
      try simp only [Act.put, List.getElem_toArray, List.getElem_cons_succ, List.getElem_cons_zero, List.setIfInBounds_toArray, List.set_cons_zero, List.set_cons_succ]
      refine wpAnyH_take (i := 10) (v := .bool false) rfl (by kernel_rfl) (by kernel_rfl) (by kernel_rfl) (fun _ _ _ h => h) (Or.inl ⟨by rfl, ?_⟩) hHeld ?_
      · intro w' hSw; subst hSw; go_simp <;> omega
      try simp only [Act.put, List.getElem_toArray, List.getElem_cons_succ, List.getElem_cons_zero, List.setIfInBounds_toArray, List.set_cons_zero, List.set_cons_succ]
      refine wpAnyH_done (by kernel_rfl) ?_ _
      clear hHeld
      go_wp2_with fail
      go_roundw
      case rel => exact ⟨k + 1, by omega, by go_num, HB.out.drew⟩
      case measure => simp [intOf]; omega
    · obtain rfl : k = q := by omega
      go_upto_region 8 with fail
      go_wp2_with fail
      go_loopw [6] (fun t6 wr => ∃ k : Nat, k ≤ m ∧ t6 = .int .i64 k ∧ Below w0.heap.size w0 wr) (fun t6 _ => m - (intOf t6).toNat)
      case atStart => exact ⟨0, Nat.zero_le _, rfl, HB.out⟩
      case round =>
        clear HB HBw Hb1 Hb2 d0 d1 e0 e1 hz kk0
        obtain ⟨k, hk, rfl, hB⟩ := hrel
        obtain ⟨wo, ewo⟩ : ∃ x, x = wr := ⟨_, rfl⟩
        subst ewo
        have hz := hB.size
        have HB := Lib.hid hB
        have HBw := Lib.hid (HB0.out.trans (hB.mono (by omega)))
        have kk0 : (0 : Int) ≤ (k : Int) := by omega
        have Hb1 := Lib.hid (HA.out.below hB (by omega))
        have Hb2 := Lib.hid (HBb.out.below hB hz0)
        clear hB
        have hl1 : w.heap.size < wo.heap.size := by omega
        have hl2 : w.heap.size + 1 < wo.heap.size := by omega
        obtain ⟨d0, d1⟩ := Hb1.out.cells.c2
        simp only [Nat.zero_add] at d1
        by_cases hlt : k < m
        · have hltl : k < l.length := by rw [← Hm.out]; exact hlt
          obtain ⟨ao', cap', e', -, -, -, hc⟩ := (Sl.below HLa.out rowE_loc HBw.out h3).form
          injection e' with e1' e2' e3'
          subst e1' e3'
          obtain ⟨bx, ox, rfl, hb1, hb2, hcc⟩ := hc k hltl
          obtain ⟨cs, _, hcs, sv, rfl, hsv⟩ := hcc k hltl
          have Hca := Lib.hid hcs
          have Hrx := Lib.hid hsv
          obtain ⟨ax, cx, rfl, -, -, -, -⟩ := hsv.form
          clear hc hcc hcs hsv
          obtain ⟨ao', cap', e', -, -, -, hc⟩ := (Sl.below HLb.out rowE_loc HBw.out h4).form
          injection e' with e1' e2' e3'
          subst e1' e3'
          obtain ⟨by_, oy, rfl, hb3, hb4, hcc⟩ := hc k hltl
          obtain ⟨cs, _, hcs, sv, rfl, hsv⟩ := hcc k hltl
          have Hcb := Lib.hid hcs
          have Hry := Lib.hid hsv
          obtain ⟨ay, cy, rfl, -, -, -, -⟩ := hsv.form
          clear hc hcc hcs hsv
          have hbxw : bx < wo.heap.size := by omega
          have hbyw : by_ < wo.heap.size := by omega
          have Hsx := Lib.hid (Hrs.out _ (List.getElem_mem hltl))
          generalize l[k] = x at *
          have kkl : (k : Int) < (m : Int) := by omega
          go_upto_region 11 with fail
          have hS0 : Below wo.heap.size wo wo.drew := (Below.refl _ _).drew
          refine wp_region_held_drew (S := fun w' => Below wo.heap.size wo w') (by kernel_rfl) hS0 (fun hHeld => ?_)
          refine wpAnyH_take (i := 0) (v := .pointer (some ⟨w.heap.size, 1, none⟩)) rfl (by kernel_rfl) (by kernel_rfl) (by kernel_rfl) (fun _ _ _ h => h) (Or.inl ⟨by rfl, ?_⟩) hHeld ?_
          · intro w' hSw; go_simp
          try simp only [Act.put, List.getElem_toArray, List.getElem_cons_succ, List.getElem_cons_zero, List.setIfInBounds_toArray, List.set_cons_zero, List.set_cons_succ]
          refine wpAnyH_take (i := 1) (v := .slice (some ⟨bx, ox, none⟩) m cla) rfl (by kernel_rfl) (by kernel_rfl) (by kernel_rfl) (fun _ _ _ h => h) (Or.inl ⟨by rfl, ?_⟩) hHeld ?_
          · intro w' hSw; obtain ⟨z0, z1⟩ := (Hb1.out.below hSw hl1).cells.c2; simp only [Nat.zero_add] at z1; go_simp
          try simp only [Act.put, List.getElem_toArray, List.getElem_cons_succ, List.getElem_cons_zero, List.setIfInBounds_toArray, List.set_cons_zero, List.set_cons_succ]
          refine wpAnyH_take (i := 2) (v := .int .i64 ((k : Int))) rfl (by kernel_rfl) (by kernel_rfl) (by kernel_rfl) (fun _ _ _ h => h) (Or.inl ⟨by rfl, ?_⟩) hHeld ?_
          · intro w' hSw; go_simp
          try simp only [Act.put, List.getElem_toArray, List.getElem_cons_succ, List.getElem_cons_zero, List.setIfInBounds_toArray, List.set_cons_zero, List.set_cons_succ]
          refine wpAnyH_take (i := 3) (v := .pointer (some ⟨bx, ox + k, none⟩)) rfl (by kernel_rfl) (by kernel_rfl) (by kernel_rfl) (fun _ _ _ h => h) (Or.inl ⟨by rfl, ?_⟩) hHeld ?_
          · intro w' hSw; go_simp
          try simp only [Act.put, List.getElem_toArray, List.getElem_cons_succ, List.getElem_cons_zero, List.setIfInBounds_toArray, List.set_cons_zero, List.set_cons_succ]
          refine wpAnyH_take (i := 4) (v := .slice ax x.length cx) rfl (by kernel_rfl) (by kernel_rfl) (by kernel_rfl) (fun _ _ _ h => h) (Or.inl ⟨by rfl, ?_⟩) hHeld ?_
          · intro w' hSw; have kx := (Hca.out.agree (.below hSw (Nat.le_refl _)) (Nat.zero_le _) hbxw).c1; rw [Nat.mul_one] at kx; go_simp
          try simp only [Act.put, List.getElem_toArray, List.getElem_cons_succ, List.getElem_cons_zero, List.setIfInBounds_toArray, List.set_cons_zero, List.set_cons_succ]
          refine wpAnyH_take (i := 5) (v := .pointer (some ⟨w.heap.size + 1, 1, none⟩)) rfl (by kernel_rfl) (by kernel_rfl) (by kernel_rfl) (fun _ _ _ h => h) (Or.inl ⟨by rfl, ?_⟩) hHeld ?_
          · intro w' hSw; go_simp
          try simp only [Act.put, List.getElem_toArray, List.getElem_cons_succ, List.getElem_cons_zero, List.setIfInBounds_toArray, List.set_cons_zero, List.set_cons_succ]
          refine wpAnyH_take (i := 6) (v := .slice (some ⟨by_, oy, none⟩) m clb) rfl (by kernel_rfl) (by kernel_rfl) (by kernel_rfl) (fun _ _ _ h => h) (Or.inl ⟨by rfl, ?_⟩) hHeld ?_
          · intro w' hSw; obtain ⟨z0, z1⟩ := (Hb2.out.below hSw hl2).cells.c2; simp only [Nat.zero_add] at z1; go_simp
          try simp only [Act.put, List.getElem_toArray, List.getElem_cons_succ, List.getElem_cons_zero, List.setIfInBounds_toArray, List.set_cons_zero, List.set_cons_succ]
          refine wpAnyH_take (i := 7) (v := .int .i64 ((k : Int))) rfl (by kernel_rfl) (by kernel_rfl) (by kernel_rfl) (fun _ _ _ h => h) (Or.inl ⟨by rfl, ?_⟩) hHeld ?_
          · intro w' hSw; go_simp
          try simp only [Act.put, List.getElem_toArray, List.getElem_cons_succ, List.getElem_cons_zero, List.setIfInBounds_toArray, List.set_cons_zero, List.set_cons_succ]
          refine wpAnyH_take (i := 8) (v := .pointer (some ⟨by_, oy + k, none⟩)) rfl (by kernel_rfl) (by kernel_rfl) (by kernel_rfl) (fun _ _ _ h => h) (Or.inl ⟨by rfl, ?_⟩) hHeld ?_
          · intro w' hSw; go_simp
          try simp only [Act.put, List.getElem_toArray, List.getElem_cons_succ, List.getElem_cons_zero, List.setIfInBounds_toArray, List.set_cons_zero, List.set_cons_succ]
          refine wpAnyH_take (i := 9) (v := .slice ay x.length cy) rfl (by kernel_rfl) (by kernel_rfl) (by kernel_rfl) (fun _ _ _ h => h) (Or.inl ⟨by rfl, ?_⟩) hHeld ?_
          · intro w' hSw; have kx := (Hcb.out.agree (.below hSw (Nat.le_refl _)) (Nat.zero_le _) hbyw).c1; rw [Nat.mul_one] at kx; go_simp
          try simp only [Act.put, List.getElem_toArray, List.getElem_cons_succ, List.getElem_cons_zero, List.setIfInBounds_toArray, List.set_cons_zero, List.set_cons_succ]
          refine wpAnyH_ready (rs := [10]) (by kernel_rfl) (by simp) ?_
          refine allCall (f := 25) (args := #[.slice ax x.length cx, .slice ay x.length cy]) rfl (by kernel_rfl) (by kernel_rfl) ?_ AllReadyH.nil
          refine refRowsCompare_any lo hi lo2 hi2 x x _ _ wo.drew (Sl.below Hrx.out Row1.loc hS0 (by omega)) (Sl.below Hry.out Row1.loc hS0 (by omega)) (by show hi ≤ wo.heap.size; omega) (by show hi2 ≤ wo.heap.size; omega) Hsx.out Hsx.out _ (fun w5 hB5 => ?_)
          rw [cmpR_self]
          refine ⟨_, rfl, hS0.trans (hB5.mono (Nat.le_refl _)), ?_⟩
          have HB5 := Lib.hid (hS0.trans (hB5.mono (Nat.le_refl _)))
          clear hB5 hHeld
          have hHeld := HB5.out
          try simp only [Act.put, List.getElem_toArray, List.getElem_cons_succ, List.getElem_cons_zero, List.setIfInBounds_toArray, List.set_cons_zero, List.set_cons_succ]
          refine wpAnyH_take (i := 11) (v := .int .i64 0) rfl (by kernel_rfl) (by kernel_rfl) (by kernel_rfl) (fun _ _ _ h => h) (Or.inl ⟨by rfl, ?_⟩) hHeld ?_
          · intro w' hSw; go_simp
          try simp only [Act.put, List.getElem_toArray, List.getElem_cons_succ, List.getElem_cons_zero, List.setIfInBounds_toArray, List.set_cons_zero, List.set_cons_succ]
          refine wpAnyH_done (by kernel_rfl) ?_ _
          clear hHeld
          go_wp2_with fail
          go_roundw
          case rel => exact ⟨k + 1, by omega, by go_num, HB.out.trans (HB5.out.mono hz)⟩
          case measure => simp [intOf]; omega
        · obtain rfl : k = m := by omega
          have llt : ¬ ((k : Nat) : Int) < (k : Int) := by omega
          have hr := HR.out _ HBw.out
          go_wp2_with fail
          first | exact hr | exact fin hr rfl
end Go.Proofs.Ytpncblagjkbemaa
end

/- The law's same on relations that are alike. (Printed by rowo.py.) -/
section
namespace Go.Proofs.Ytpncblagjkbemaa
open Go.RowKit
set_option linter.unusedVariables false
set_option linter.unusedSimpArgs false

set_option maxRecDepth 100000 in
set_option maxHeartbeats 4000000 in
theorem lawSame_any (lo hi lo2 hi2 lc hc lc2 hc2 : Nat) (cols : List S) (l : List (List V)) (ca cb la lb : Value) (w : World) (hca : Strs lc hc w ca cols) (hcb : Strs lc2 hc2 w cb cols) (hla : Rws lo hi w la l) (hlb : Rws lo2 hi2 w lb l) (h1 : hc ≤ w.heap.size) (h2 : hc2 ≤ w.heap.size) (h3 : hi ≤ w.heap.size) (h4 : hi2 ≤ w.heap.size) (hrs : ∀ x ∈ l, ∀ a ∈ x, a.s.length ≤ 9223372036854775807) (R : Ending → World → Prop)
    (hR : ∀ w', Below w.heap.size w w' → R (.returned (.bool true)) w') : Calls Try.prog 29 #[.agg #[ca, la], .agg #[cb, lb]] w R := by
  have HR := Lib.hid hR
  have HCa := Lib.hid hca
  have HCb := Lib.hid hcb
  have HLa := Lib.hid hla
  have HLb := Lib.hid hlb
  have Hrs := Lib.hid hrs
  obtain ⟨aca, cca, rfl, -, -, -, -⟩ := hca.form
  obtain ⟨acb, ccb, rfl, -, -, -, -⟩ := hcb.form
  obtain ⟨ala, cla, rfl, -, -, -, -⟩ := hla.form
  obtain ⟨alb, clb, rfl, -, -, -, -⟩ := hlb.form
  clear hR hca hcb hla hlb hrs
  go_enter Try.func29, Try.ntmps29
  go_upto_region 1 with fail
  obtain ⟨w0, hw0⟩ : ∃ w0, w0 = (w.alloc (.cells #[.slice aca cols.length cca, .slice ala l.length cla] 34)).alloc (.cells #[.slice acb cols.length ccb, .slice alb l.length clb] 34) := ⟨_, rfl⟩
  have s1 : (w.alloc (.cells #[.slice aca cols.length cca, .slice ala l.length cla] 34)).heap.size = w.heap.size + 1 := Array.size_push _
  have hB0 : Below w.heap.size w w0 := by
    rw [hw0]
    exact (alloc_below w _).alloc (by rw [s1]; omega) _
  have hz0 : w.heap.size + 1 < w0.heap.size := by
    rw [hw0]
    show _ < (Array.push _ _).size
    rw [Array.size_push, s1]; omega
  have hb1 : Blk w0 w.heap.size [.slice aca cols.length cca, .slice ala l.length cla] 34 := by
    rw [hw0]
    exact (Blk.new w [.slice aca cols.length cca, .slice ala l.length cla] _ rfl).alloc _
  have hb2 : Blk w0 (w.heap.size + 1) [.slice acb cols.length ccb, .slice alb l.length clb] 34 := by
    rw [hw0]
    exact Blk.new _ [.slice acb cols.length ccb, .slice alb l.length clb] _ s1.symm
  rw [← hw0]
  clear hw0 s1
  have HB0 := Lib.hid hB0
  have HA := Lib.hid hb1
  have HBb := Lib.hid hb2
  have hb1l : w.heap.size < w0.heap.size := by omega
  clear hB0 hb1 hb2
  have hS0 : Below w0.heap.size w0 w0.drew := (Below.refl _ _).drew
  refine wp_region_held_drew (S := fun w' => Below w0.heap.size w0 w') (by kernel_rfl) hS0 (fun hHeld => ?_)
  refine wpAnyH_take (i := 0) (v := .agg #[.slice aca cols.length cca, .slice ala l.length cla]) rfl (by kernel_rfl) (by kernel_rfl) (by kernel_rfl) (fun _ _ _ h => h) (Or.inl ⟨by rfl, ?_⟩) hHeld ?_
  · intro w' hSw; have kx := (HA.out.below hSw hb1l).cells.runVar (P := Try.prog) (t := 34) (fun _ => by kernel_rfl) (fun _ => by kernel_rfl); obtain ⟨z0, z1⟩ := (HA.out.below hSw hb1l).cells.c2; simp only [Nat.zero_add] at z1; go_simp
  try simp only [Act.put, List.getElem_toArray, List.getElem_cons_succ, List.getElem_cons_zero, List.setIfInBounds_toArray, List.set_cons_zero, List.set_cons_succ]
  refine wpAnyH_take (i := 2) (v := .agg #[.slice acb cols.length ccb, .slice alb l.length clb]) rfl (by kernel_rfl) (by kernel_rfl) (by kernel_rfl) (fun _ _ _ h => h) (Or.inl ⟨by rfl, ?_⟩) hHeld ?_
  · intro w' hSw; have kx := (HBb.out.below hSw hz0).cells.runVar (P := Try.prog) (t := 34) (fun _ => by kernel_rfl) (fun _ => by kernel_rfl); obtain ⟨z0, z1⟩ := (HBb.out.below hSw hz0).cells.c2; simp only [Nat.zero_add] at z1; go_simp
  try simp only [Act.put, List.getElem_toArray, List.getElem_cons_succ, List.getElem_cons_zero, List.setIfInBounds_toArray, List.set_cons_zero, List.set_cons_succ]
  refine wpAnyH_ready (rs := [1]) (by kernel_rfl) (by simp) ?_
  refine allCall (f := 32) (args := #[.agg #[.slice aca cols.length cca, .slice ala l.length cla]]) rfl (by kernel_rfl) (by kernel_rfl) ?_ AllReadyH.nil
  refine ref_any _ _ _ _ _ _ w0.drew _ (fun wq1 hB => ?_)
  refine ⟨_, rfl, hHeld.trans (hB.mono hHeld.size), ?_⟩
  have hHeld2 := hHeld.trans (hB.mono hHeld.size)
  clear hHeld
  have hHeld := hHeld2
  clear hHeld2
  clear hB
  try simp only [Act.put, List.getElem_toArray, List.getElem_cons_succ, List.getElem_cons_zero, List.setIfInBounds_toArray, List.set_cons_zero, List.set_cons_succ]
  refine wpAnyH_ready (rs := [3]) (by kernel_rfl) (by simp) ?_
  refine allCall (f := 32) (args := #[.agg #[.slice acb cols.length ccb, .slice alb l.length clb]]) rfl (by kernel_rfl) (by kernel_rfl) ?_ AllReadyH.nil
  refine ref_any _ _ _ _ _ _ wq1 _ (fun wq2 hB => ?_)
  refine ⟨_, rfl, hHeld.trans (hB.mono hHeld.size), ?_⟩
  have hHeld2 := hHeld.trans (hB.mono hHeld.size)
  clear hHeld
  have hHeld := hHeld2
  clear hHeld2
  clear hB
  try simp only [Act.put, List.getElem_toArray, List.getElem_cons_succ, List.getElem_cons_zero, List.setIfInBounds_toArray, List.set_cons_zero, List.set_cons_succ]
  refine wpAnyH_ready (rs := [4]) (by kernel_rfl) (by simp) ?_
  refine allCall (f := 56) (args := #[.agg #[.slice aca cols.length cca, .slice ala l.length cla], .agg #[.slice acb cols.length ccb, .slice alb l.length clb]]) rfl (by kernel_rfl) (by kernel_rfl) ?_ AllReadyH.nil
  refine Same_any lo hi lo2 hi2 lc hc lc2 hc2 cols l _ _ _ _ wq2 (Sl.below HCa.out Strs.loc (HB0.out.trans (hHeld.mono (by omega))) h1) (Sl.below HCb.out Strs.loc (HB0.out.trans (hHeld.mono (by omega))) h2) (Sl.below HLa.out rowE_loc (HB0.out.trans (hHeld.mono (by omega))) h3) (Sl.below HLb.out rowE_loc (HB0.out.trans (hHeld.mono (by omega))) h4) (by have := hHeld.size; omega) (by have := hHeld.size; omega) (by have := hHeld.size; omega) (by have := hHeld.size; omega) Hrs.out _ (fun wq3 hB => ?_)
  refine ⟨_, rfl, hHeld.trans (hB.mono hHeld.size), ?_⟩
  have hHeld2 := hHeld.trans (hB.mono hHeld.size)
  clear hHeld
  have hHeld := hHeld2
  clear hHeld2
  clear hB
  try simp only [Act.put, List.getElem_toArray, List.getElem_cons_succ, List.getElem_cons_zero, List.setIfInBounds_toArray, List.set_cons_zero, List.set_cons_succ]
  refine wpAnyH_take (i := 5) (v := .bool true) rfl (by kernel_rfl) (by kernel_rfl) (by kernel_rfl) (fun _ _ _ h => h) (Or.inl ⟨by rfl, ?_⟩) hHeld ?_
  · intro w' hSw; go_simp
  try simp only [Act.put, List.getElem_toArray, List.getElem_cons_succ, List.getElem_cons_zero, List.setIfInBounds_toArray, List.set_cons_zero, List.set_cons_succ]
  have HH2 := Lib.hid hHeld
  refine wpAnyH_done (by kernel_rfl) ?_ _
  clear hHeld
  have hr := HR.out _ (HB0.out.trans (HH2.out.mono (by omega)))
  go_wp2_with fail
  first | exact hr | exact fin hr rfl
end Go.Proofs.Ytpncblagjkbemaa
end

/- Slices whose memory may be written, whatever it holds. -/
section
namespace Go.Proofs.Ytpncblagjkbemaa
open Go.RowKit
set_option linter.unusedVariables false
set_option linter.unusedSimpArgs false

/-- v has n elements in a block of its own among lo .. hi that may be written; what it holds is not said. -/
def Shp (e : TypeId) (size lo hi : Nat) (w : World) (v : Value) (n : Nat) : Prop :=
  (n = 0 ∧ v = .slice none 0 0) ∨ ∃ g cap cur, v = .slice (some ⟨g, 0, none⟩) n cap ∧ lo ≤ g ∧ g < hi ∧ n ≤ cap ∧ cap ≤ 9223372036854775807 ∧ w.heap[g]? = some (.cells cur e) ∧ n * size ≤ cur.size
theorem heap_setCell_shape {w : World} {g : Nat} {cur : Array Value} {e : TypeId} (h : w.heap[g]? = some (.cells cur e)) (b i : Nat) (u : Value) : ∃ cur', (w.setCell ⟨b, i, none⟩ u).heap[g]? = some (.cells cur' e) ∧ cur'.size = cur.size := by
  by_cases hg : g = b
  · subst hg
    have hb : Blk w g cur.toList e := by unfold Blk; simpa using h
    have hs := hb.set i u
    unfold Blk at hs
    exact ⟨_, hs, by simp⟩
  · exact ⟨cur, (Below.heap_setCell _ _ _ _ hg).trans h, rfl⟩
theorem Shp.setCell {e : TypeId} {size lo hi : Nat} {w : World} {v : Value} {n : Nat} (h : Shp e size lo hi w v n) (b i : Nat) (u : Value) : Shp e size lo hi (w.setCell ⟨b, i, none⟩ u) v n := by
  rcases h with h | ⟨g, cap, cur, rfl, h1, h2, h3, h4, h5, h6⟩
  · exact .inl h
  · obtain ⟨cur', h5', h6'⟩ := heap_setCell_shape h5 b i u
    exact .inr ⟨g, cap, cur', rfl, h1, h2, h3, h4, h5', by omega⟩
theorem Shp.below {e : TypeId} {size lo hi B : Nat} {w w' : World} {v : Value} {n : Nat} (h : Shp e size lo hi w v n) (hB : Below B w w') (hb : hi ≤ B) : Shp e size lo hi w' v n := by
  rcases h with h | ⟨g, cap, cur, rfl, h1, h2, h3, h4, h5, h6⟩
  · exact .inl h
  · exact .inr ⟨g, cap, cur, rfl, h1, h2, h3, h4, (hB.block g (by omega)).trans h5, h6⟩
/-- A cell of it is there, and may be written. -/
theorem Shp.cell {e : TypeId} {size lo hi : Nat} {w : World} {v : Value} {n : Nat} (h : Shp e size lo hi w v n) {j : Nat} (hj : j < n) : ∃ g cap, v = .slice (some ⟨g, 0, none⟩) n cap ∧ lo ≤ g ∧ g < hi ∧ n ≤ cap ∧ cap ≤ 9223372036854775807 ∧ (∀ i, i < size → ∃ u, w.cell? ⟨g, j * size + i, none⟩ = some u) ∧ ∀ i, w.frozen? ⟨g, i, none⟩ = false := by
  rcases h with ⟨h, -⟩ | ⟨g, cap, cur, rfl, h1, h2, h3, h4, h5, h6⟩
  · omega
  · have hb : Blk w g cur.toList e := by unfold Blk; simpa using h5
    refine ⟨g, cap, rfl, h1, h2, h3, h4, fun i hi => ?_, fun i => hb.free i⟩
    have hlt : j * size + i < cur.toList.length := by
      have := Nat.mul_le_mul_right size (Nat.succ_le_of_lt hj)
      rw [Nat.succ_mul] at this
      rw [Array.length_toList]
      omega
    refine ⟨cur.toList[j * size + i], ?_⟩
    have := hb.cells (j * size + i) cur.toList[j * size + i] (List.getElem?_eq_getElem hlt)
    simpa using this
theorem Shp.ofOwn {α : Type} {enc : α → List Value} {e : TypeId} {size lo : Nat} {w : World} {v : Value} {xs : List α} (h : Own enc e size lo w v xs) : Shp e size lo w.heap.size w v xs.length := by
  have hl := Own.lt h
  rcases h.2 with ⟨ev, hn⟩ | ⟨g, cap, cur, ev, hb, hg, hnc, hcm, hcs, htake⟩
  · exact .inl ⟨hn, ev⟩
  · subst ev
    refine .inr ⟨g, cap, cur, rfl, hb, (hl g rfl).2, hnc, hcm, hg, ?_⟩
    have := Nat.mul_le_mul_right size hnc
    omega
end Go.Proofs.Ytpncblagjkbemaa
end

/- What RowsPicks asks of each row. -/
section
namespace Go.Proofs.Ytpncblagjkbemaa
open Go.RowKit
set_option linter.unusedVariables false
set_option linter.unusedSimpArgs false

def keep3 (k : Nat) : Bool := (k + 1) % 3 != 0
/-- The state of what is asked: fine, and how often it was asked. -/
structure AskJ (bf ba br lo hi : Nat) (pc av : Option Addr) (nc cc cv : Nat) (l : List (List V)) (k : Nat) (w : World) : Prop where
  fine : Blk w bf [.bool true] 4
  asked : Blk w ba [.int .i64 k] 3
  box : Blk w br [.slice pc nc cc, .slice av l.length cv] 34
  rows : Rws lo hi w (.slice av l.length cv) l
  le : hi ≤ w.heap.size
theorem AskJ.below {bf ba br lo hi : Nat} {pc av : Option Addr} {nc cc cv : Nat} {l : List (List V)} {k B : Nat} {w w' : World} (h : AskJ bf ba br lo hi pc av nc cc cv l k w) (hB : Below B w w') (h1 : bf < B) (h2 : ba < B) (h3 : br < B) (h4 : hi ≤ B) : AskJ bf ba br lo hi pc av nc cc cv l k w' :=
  ⟨h.fine.below hB h1, h.asked.below hB h2, h.box.below hB h3, Sl.below h.rows rowE_loc hB h4, Nat.le_trans h.le hB.size⟩
theorem AskJ.set {bf ba br lo hi : Nat} {pc av : Option Addr} {nc cc cv : Nat} {l : List (List V)} {k : Nat} {w : World} (h : AskJ bf ba br lo hi pc av nc cc cv l k w) {g i : Nat} (u : Value) (h1 : bf < g) (h2 : ba < g) (h3 : br < g) (h4 : hi ≤ g) : AskJ bf ba br lo hi pc av nc cc cv l k (w.setCell ⟨g, i, none⟩ u) :=
  ⟨h.fine.other (by show bf ≠ g; omega) u, h.asked.other (by show ba ≠ g; omega) u, h.box.other (by show br ≠ g; omega) u, Sl.agree h.rows rowE_loc (Agree.setCell w (p := ⟨g, i, none⟩) (.inr h4) u), by rw [show (w.setCell ⟨g, i, none⟩ u).heap.size = w.heap.size by simp]; exact h.le⟩
theorem AskJ.next {bf ba br lo hi : Nat} {pc av : Option Addr} {nc cc cv : Nat} {l : List (List V)} {k : Nat} {w : World} (h : AskJ bf ba br lo hi pc av nc cc cv l k w) (hfa : bf ≠ ba) (hfr : bf ≠ br) (har : ba ≠ br) (hfl : bf < lo ∨ hi ≤ bf) (hal : ba < lo ∨ hi ≤ ba) :
    AskJ bf ba br lo hi pc av nc cc cv l (k + 1) ((w.setCell ⟨bf, 0, none⟩ (.bool true)).setCell ⟨ba, 0, none⟩ (.int .i64 ((k : Int) + 1))) :=
  ⟨(h.fine.set 0 (.bool true)).other (p := ⟨ba, 0, none⟩) hfa _, (h.asked.other (p := ⟨bf, 0, none⟩) (fun e => hfa e.symm) (.bool true)).set 0 (.int .i64 ((k : Int) + 1)), (h.box.other (p := ⟨bf, 0, none⟩) (fun e => hfr e.symm) _).other (p := ⟨ba, 0, none⟩) (fun e => har e.symm) _,
    Sl.agree h.rows rowE_loc ((Agree.setCell w (p := ⟨bf, 0, none⟩) hfl _).trans (Agree.setCell _ (p := ⟨ba, 0, none⟩) hal _)), by simp; exact h.le⟩
set_option maxRecDepth 100000 in
set_option maxHeartbeats 4000000 in
theorem Picks1_any (bf ba br lo hi zlo k : Nat) (pc av : Option Addr) (nc cc cv : Nat) (l : List (List V)) (hk : k < l.length) (hll : l.length ≤ 1000000) (zv : Value) (w : World) (hJ : AskJ bf ba br lo hi pc av nc cc cv l k w) (hz : OwnV zlo w zv l[k]) (h1 : bf < zlo) (h2 : ba < zlo) (h3 : br < zlo) (h4 : hi ≤ zlo) (hfa : bf ≠ ba) (hfr : bf ≠ br) (har : ba ≠ br) (hfl : bf < lo ∨ hi ≤ bf) (hal : ba < lo ∨ hi ≤ ba)
    (hrs : ∀ x ∈ l, ∀ a ∈ x, a.s.length ≤ 9223372036854775807) (R : Ending → World → Prop)
    (hR : ∀ w', AskJ bf ba br lo hi pc av nc cc cv l (k + 1) w' → Only (fun b => (b = bf ∨ b = ba) ∨ zv.ownBlock = some b) w w' → R (.returned (.bool (keep3 k))) w') :
    Calls Try.prog 36 #[zv, .pointer (some ⟨bf, 0, none⟩), .pointer (some ⟨ba, 0, none⟩), .pointer (some ⟨br, 0, none⟩)] w R := by
  have HR := Lib.hid hR
  have HJ := Lib.hid hJ
  have Hz := Lib.hid hz
  have hkk : (k : Int) < (l.length : Int) := by omega
  have kk0 : (0 : Int) ≤ (k : Int) := by omega
  obtain ⟨b4, o4, rfl, hb4, hrow4⟩ := Rws.at hJ.rows hJ.le (by omega)
  obtain ⟨p2, c2, g2, r2⟩ := hrow4 k hk
  have g0 := g2 w (Below.refl _ _)
  have R2 := Lib.hid r2
  have M2 := Lib.hid (hrs _ (List.getElem_mem hk))
  have hle := hJ.le
  obtain ⟨pz, qz, rfl⟩ := Own.slice hz
  have d0 := hJ.fine.cells.c1
  have d1 := hJ.asked.cells.c1
  obtain ⟨e0, e1⟩ := hJ.box.cells.c2
  simp only [Nat.zero_add] at e1
  have hbfl := hJ.fine.lt
  have hbal := hJ.asked.lt
  have hbrl := hJ.box.lt
  clear hR hJ hz hrow4 g2 r2 hrs
  have hxl := R2.out.len
  generalize l[k] = x at *
  go_enter Try.func36, Try.ntmps36
  go_wp2_with fail
  refine refRowsCompare_any zlo w.heap.size lo hi x x _ _ w (OwnV.sl Hz.out) R2.out (Nat.le_refl _) (by omega) M2.out M2.out _ (fun w1 hB1 => ?_)
  rw [cmpR_self]
  have HB1 := Lib.hid hB1
  have HJ1 := Lib.hid (HJ.out.below hB1 hbfl hbal hbrl hle)
  have Hz1 := Lib.hid (Own.kept Hz.out hB1)
  have f0 := HJ1.out.fine.free 0
  have f1 := HJ1.out.asked.free 0
  have d0 := HJ1.out.fine.cells.c1
  have d1 := HJ1.out.asked.cells.c1
  clear hB1
  go_upto_region 4 with fail
  have HJN := Lib.hid (HJ1.out.next hfa hfr har hfl hal)
  have HSN := Lib.hid (((Shp.ofOwn Hz1.out).setCell bf 0 (.bool true)).setCell ba 0 (.int .i64 ((k : Int) + 1)))
  have HON : Hid (Only (fun b => (b = bf ∨ b = ba) ∨ (Value.slice pz x.length qz).ownBlock = some b) w ((w1.setCell ⟨bf, 0, none⟩ (.bool true)).setCell ⟨ba, 0, none⟩ (.int .i64 ((k : Int) + 1)))) :=
    Lib.hid (((Below.only HB1.out).trans (Only.setCell w1 (p := ⟨bf, 0, none⟩) (.inl (.inl rfl)) _)).trans (Only.setCell _ (p := ⟨ba, 0, none⟩) (.inl (.inr rfl)) _))
  have hks : (((k : Int) + 1) % 3 != 0) = keep3 k := by
    unfold keep3
    rw [Bool.eq_iff_iff]
    simp only [bne_iff_ne, ne_eq]
    omega
  clear d0 d1 f0 f1 HJ1 Hz1 HB1 HJ Hz
  generalize (w1.setCell ⟨bf, 0, none⟩ (.bool true)).setCell ⟨ba, 0, none⟩ (.int .i64 ((k : Int) + 1)) = w3 at *
  generalize keep3 k = kp at *
  go_wp2_with fail
  go_loopw [33] (fun t33 wr => ∃ j : Nat, j ≤ x.length ∧ t33 = .int .i64 j ∧ AskJ bf ba br lo hi pc (some ⟨b4, o4, none⟩) nc cc cv l (k + 1) wr ∧ Only (fun b => (b = bf ∨ b = ba) ∨ (Value.slice pz x.length qz).ownBlock = some b) w wr ∧ Shp 24 3 zlo w1.heap.size wr (.slice pz x.length qz) x.length) (fun t33 _ => x.length - (intOf t33).toNat)
  case atStart => exact ⟨0, Nat.zero_le _, rfl, HJN.out, HON.out, HSN.out⟩
  case round =>
    obtain ⟨j, hj, rfl, hJ', hO', hS'⟩ := hrel
    obtain ⟨wo, ewo⟩ : ∃ x, x = wr := ⟨_, rfl⟩
    subst ewo
    have HJ' := Lib.hid hJ'
    have HO' := Lib.hid hO'
    have HS' := Lib.hid hS'
    have jj0 : (0 : Int) ≤ (j : Int) := by omega
    clear hJ' hO' hS'
    by_cases hlt : j < x.length
    · have jjl : (j : Int) < (x.length : Int) := by omega
      obtain ⟨g, cap, ev, q1, q2, q3, q4, q5, q6⟩ := HS'.out.cell hlt
      injection ev with ev1 ev2 ev3
      subst ev1 ev3
      obtain ⟨u0, hu0⟩ := q5 0 (by omega)
      obtain ⟨u1, hu1⟩ := q5 1 (by omega)
      obtain ⟨u2, hu2⟩ := q5 2 (by omega)
      rw [Nat.add_zero] at hu0
      have hf0 := q6 (j * 3)
      have hf1 := q6 (j * 3 + 1)
      have hf2 := q6 (j * 3 + 2)
      have HJn := Lib.hid (((HJ'.out.set (g := g) (i := j * 3) (.int .i64 98) (by omega) (by omega) (by omega) (by omega)).set (g := g) (i := j * 3 + 1) (.int .i64 0) (by omega) (by omega) (by omega) (by omega)).set (g := g) (i := j * 3 + 2) (.string ⟨#[]⟩) (by omega) (by omega) (by omega) (by omega))
      have HSn := Lib.hid (((HS'.out.setCell g (j * 3) (.int .i64 98)).setCell g (j * 3 + 1) (.int .i64 0)).setCell g (j * 3 + 2) (.string ⟨#[]⟩))
      have HOn := Lib.hid (((HO'.out.trans (Only.setCell _ (p := ⟨g, j * 3, none⟩) (.inr rfl) (.int .i64 98))).trans (Only.setCell _ (p := ⟨g, j * 3 + 1, none⟩) (.inr rfl) (.int .i64 0))).trans (Only.setCell _ (p := ⟨g, j * 3 + 2, none⟩) (.inr rfl) (.string ⟨#[]⟩)))
      clear q5 q6
      go_wp2_with fail
      go_roundw
      case rel => exact ⟨j + 1, by omega, by go_num, HJn.out, HOn.out, HSn.out⟩
      case measure => simp [intOf]; omega
    · obtain rfl : j = x.length := by omega
      have nln : ¬ ((x.length : Nat) : Int) < (x.length : Int) := by omega
      have hr := HR.out wo HJ'.out HO'.out
      go_wp2_with fail
      first | exact hr | exact fin hr rfl
end Go.Proofs.Ytpncblagjkbemaa
end

/- The law's told on answers that are alike. (Printed by rowr.py.) -/
section
namespace Go.Proofs.Ytpncblagjkbemaa
open Go.RowKit
set_option linter.unusedVariables false
set_option linter.unusedSimpArgs false

/-- The blocks that are written over. -/
def TB (ca : Value) (hs : List Value) (b : Nat) : Prop := ca.ownBlock = some b ∨ ∃ h ∈ hs, h.ownBlock = some b
/-- What the walk over a's rows and columns keeps. -/
structure ToldIn (lo hi : Nat) (w wr : World) (hs : List Value) (ns : List Nat) (la ca : Value) (nc : Nat) : Prop where
  own : OwnH lo wr la hs
  len : hs.length = ns.length
  row : ∀ i (h : i < hs.length) (h2 : i < ns.length), Shp 24 3 lo hi wr hs[i] ns[i]
  col : Shp 9 1 lo hi wr ca nc
  box : Blk wr hi [ca, la] 34
  bel : Below lo w wr
  only : Only (TB ca hs) w wr
theorem ToldIn.set {lo hi : Nat} {w wr : World} {hs : List Value} {ns : List Nat} {la ca : Value} {nc : Nat} (h : ToldIn lo hi w wr hs ns la ca nc) {b i : Nat} (u : Value) (h1 : lo ≤ b) (h2 : b < hi) (h3 : la.ownBlock ≠ some b) (h4 : TB ca hs b) : ToldIn lo hi w (wr.setCell ⟨b, i, none⟩ u) hs ns la ca nc :=
  ⟨Own.setOther h.own h3 u, h.len, fun k hk h2 => (h.row k hk h2).setCell b i u, h.col.setCell b i u, h.box.other (by show hi ≠ b; omega) u, h.bel.setCell (p := ⟨b, i, none⟩) h1 u, h.only.trans (Only.setCell wr (p := ⟨b, i, none⟩) h4 u)⟩
set_option maxRecDepth 100000 in
set_option maxHeartbeats 2000000 in
theorem toldO_any (lo lo2 hi2 lc2 hc2 : Nat) (cols : List S) (l : List (List V)) (hs : List Value) (ca cb la lb : Value) (e : Int) (w : World) (hlo : lo ≤ w.heap.size) (hca : OwnT lo w ca cols) (hcb : Strs lc2 hc2 w cb cols) (hla : OwnR lo w la hs l) (hlb : Rws lo2 hi2 w lb l) (h2 : hc2 ≤ w.heap.size) (h4 : hi2 ≤ w.heap.size) (hrs : ∀ x ∈ l, ∀ a ∈ x, a.s.length ≤ 9223372036854775807) (R : Ending → World → Prop)
    (hR : ∀ w', Below lo w w' → Only (TB ca hs) w w' → R (.returned (.bool true)) w') : Calls Try.prog 28 #[.agg #[ca, la], .int .i64 e, .agg #[cb, lb], .int .i64 e] w R := by
  have HR := Lib.hid hR
  have OCa := Lib.hid hca
  have OLa := Lib.hid hla
  have HCa := Lib.hid (OwnT.sl hca)
  have HCb := Lib.hid hcb
  have HLa := Lib.hid (OwnR.rws hla)
  have HLb := Lib.hid hlb
  have Hrs := Lib.hid hrs
  obtain ⟨aca, cca, rfl⟩ := Own.slice hca
  obtain ⟨acb, ccb, rfl, -, -, -, -⟩ := hcb.form
  obtain ⟨ala, cla, rfl, -, -, -, -⟩ := (OwnR.rws hla).form
  obtain ⟨alb, clb, rfl, -, -, -, -⟩ := hlb.form
  clear hR hca hcb hla hlb hrs
  go_enter Try.func28, Try.ntmps28
  go_upto_region 1 with fail
  obtain ⟨w0, hw0⟩ : ∃ w0, w0 = (w.alloc (.cells #[.slice aca cols.length cca, .slice ala l.length cla] 34)).alloc (.cells #[.slice acb cols.length ccb, .slice alb l.length clb] 53) := ⟨_, rfl⟩
  have s1 : (w.alloc (.cells #[.slice aca cols.length cca, .slice ala l.length cla] 34)).heap.size = w.heap.size + 1 := Array.size_push _
  have hB0 : Below w.heap.size w w0 := by
    rw [hw0]
    exact (alloc_below w _).alloc (by rw [s1]; omega) _
  have hz0 : w.heap.size + 1 < w0.heap.size := by
    rw [hw0]
    show _ < (Array.push _ _).size
    rw [Array.size_push, s1]; omega
  have hb1 : Blk w0 w.heap.size [.slice aca cols.length cca, .slice ala l.length cla] 34 := by
    rw [hw0]
    exact (Blk.new w [.slice aca cols.length cca, .slice ala l.length cla] _ rfl).alloc _
  have hb2 : Blk w0 (w.heap.size + 1) [.slice acb cols.length ccb, .slice alb l.length clb] 53 := by
    rw [hw0]
    exact Blk.new _ [.slice acb cols.length ccb, .slice alb l.length clb] _ s1.symm
  rw [← hw0]
  clear hw0 s1
  have HB0 := Lib.hid hB0
  have HA := Lib.hid hb1
  have HBb := Lib.hid hb2
  have hb1l : w.heap.size < w0.heap.size := by omega
  clear hB0 hb1 hb2
  have hS0 : Below w0.heap.size w0 w0.drew := (Below.refl _ _).drew
  refine wp_region_held_drew (S := fun w' => Below w0.heap.size w0 w') (by kernel_rfl) hS0 (fun hHeld => ?_)
  refine wpAnyH_take (i := 0) (v := .int .i64 e) rfl (by kernel_rfl) (by kernel_rfl) (by kernel_rfl) (fun _ _ _ h => h) (Or.inl ⟨by rfl, ?_⟩) hHeld ?_
  · intro w' hSw; go_simp
  try simp only [Act.put, List.getElem_toArray, List.getElem_cons_succ, List.getElem_cons_zero, List.setIfInBounds_toArray, List.set_cons_zero, List.set_cons_succ]
  refine wpAnyH_take (i := 1) (v := .int .i64 e) rfl (by kernel_rfl) (by kernel_rfl) (by kernel_rfl) (fun _ _ _ h => h) (Or.inl ⟨by rfl, ?_⟩) hHeld ?_
  · intro w' hSw; go_simp
  try simp only [Act.put, List.getElem_toArray, List.getElem_cons_succ, List.getElem_cons_zero, List.setIfInBounds_toArray, List.set_cons_zero, List.set_cons_succ]
  refine wpAnyH_take (i := 2) (v := .bool true) rfl (by kernel_rfl) (by kernel_rfl) (by kernel_rfl) (fun _ _ _ h => h) (Or.inl ⟨by rfl, ?_⟩) hHeld ?_
  · intro w' hSw; go_simp
  try simp only [Act.put, List.getElem_toArray, List.getElem_cons_succ, List.getElem_cons_zero, List.setIfInBounds_toArray, List.set_cons_zero, List.set_cons_succ]
  refine wpAnyH_take (i := 3) (v := .bool true) rfl (by kernel_rfl) (by kernel_rfl) (by kernel_rfl) (fun _ _ _ h => h) (Or.inl ⟨by rfl, ?_⟩) hHeld ?_
  · intro w' hSw; go_simp
  try simp only [Act.put, List.getElem_toArray, List.getElem_cons_succ, List.getElem_cons_zero, List.setIfInBounds_toArray, List.set_cons_zero, List.set_cons_succ]
  refine wpAnyH_take (i := 4) (v := .agg #[.slice aca cols.length cca, .slice ala l.length cla]) rfl (by kernel_rfl) (by kernel_rfl) (by kernel_rfl) (fun _ _ _ h => h) (Or.inl ⟨by rfl, ?_⟩) hHeld ?_
  · intro w' hSw; have kx := (HA.out.below hSw hb1l).cells.runVar (P := Try.prog) (t := 34) (fun _ => by kernel_rfl) (fun _ => by kernel_rfl); obtain ⟨z0, z1⟩ := (HA.out.below hSw hb1l).cells.c2; simp only [Nat.zero_add] at z1; go_simp
  try simp only [Act.put, List.getElem_toArray, List.getElem_cons_succ, List.getElem_cons_zero, List.setIfInBounds_toArray, List.set_cons_zero, List.set_cons_succ]
  refine wpAnyH_take (i := 6) (v := .agg #[.slice acb cols.length ccb, .slice alb l.length clb]) rfl (by kernel_rfl) (by kernel_rfl) (by kernel_rfl) (fun _ _ _ h => h) (Or.inl ⟨by rfl, ?_⟩) hHeld ?_
  · intro w' hSw; have kx := (HBb.out.below hSw hz0).cells.runVar (P := Try.prog) (t := 53) (fun _ => by kernel_rfl) (fun _ => by kernel_rfl); obtain ⟨z0, z1⟩ := (HBb.out.below hSw hz0).cells.c2; simp only [Nat.zero_add] at z1; go_simp
  try simp only [Act.put, List.getElem_toArray, List.getElem_cons_succ, List.getElem_cons_zero, List.setIfInBounds_toArray, List.set_cons_zero, List.set_cons_succ]
  refine wpAnyH_ready (rs := [5]) (by kernel_rfl) (by simp) ?_
  refine allCall (f := 32) (args := #[.agg #[.slice aca cols.length cca, .slice ala l.length cla]]) rfl (by kernel_rfl) (by kernel_rfl) ?_ AllReadyH.nil
  refine ref_any _ _ _ _ _ _ w0.drew _ (fun wq1 hB => ?_)
  refine ⟨_, rfl, hHeld.trans (hB.mono hHeld.size), ?_⟩
  have hHeld2 := hHeld.trans (hB.mono hHeld.size)
  clear hHeld
  have hHeld := hHeld2
  clear hHeld2
  clear hB
  try simp only [Act.put, List.getElem_toArray, List.getElem_cons_succ, List.getElem_cons_zero, List.setIfInBounds_toArray, List.set_cons_zero, List.set_cons_succ]
  refine wpAnyH_ready (rs := [7]) (by kernel_rfl) (by simp) ?_
  refine allCall (f := 56) (args := #[.agg #[.slice aca cols.length cca, .slice ala l.length cla], .agg #[.slice acb cols.length ccb, .slice alb l.length clb]]) rfl (by kernel_rfl) (by kernel_rfl) ?_ AllReadyH.nil
  refine Same_any lo w.heap.size lo2 hi2 lo w.heap.size lc2 hc2 cols l _ _ _ _ wq1 (Sl.below HCa.out Strs.loc (HB0.out.trans (hHeld.mono (by omega))) (Nat.le_refl _)) (Sl.below HCb.out Strs.loc (HB0.out.trans (hHeld.mono (by omega))) h2) (Sl.below HLa.out rowE_loc (HB0.out.trans (hHeld.mono (by omega))) (Nat.le_refl _)) (Sl.below HLb.out rowE_loc (HB0.out.trans (hHeld.mono (by omega))) h4) (by have := hHeld.size; omega) (by have := hHeld.size; omega) (by have := hHeld.size; omega) (by have := hHeld.size; omega) Hrs.out _ (fun wq2 hB => ?_)
  refine ⟨_, rfl, hHeld.trans (hB.mono hHeld.size), ?_⟩
  have hHeld2 := hHeld.trans (hB.mono hHeld.size)
  clear hHeld
  have hHeld := hHeld2
  clear hHeld2
  clear hB
  try simp only [Act.put, List.getElem_toArray, List.getElem_cons_succ, List.getElem_cons_zero, List.setIfInBounds_toArray, List.set_cons_zero, List.set_cons_succ]
  refine wpAnyH_take (i := 8) (v := .bool true) rfl (by kernel_rfl) (by kernel_rfl) (by kernel_rfl) (fun _ _ _ h => h) (Or.inl ⟨by rfl, ?_⟩) hHeld ?_
  · intro w' hSw; go_simp
  try simp only [Act.put, List.getElem_toArray, List.getElem_cons_succ, List.getElem_cons_zero, List.setIfInBounds_toArray, List.set_cons_zero, List.set_cons_succ]
  refine wpAnyH_take (i := 9) (v := .bool true) rfl (by kernel_rfl) (by kernel_rfl) (by kernel_rfl) (fun _ _ _ h => h) (Or.inl ⟨by rfl, ?_⟩) hHeld ?_
  · intro w' hSw; go_simp
  try simp only [Act.put, List.getElem_toArray, List.getElem_cons_succ, List.getElem_cons_zero, List.setIfInBounds_toArray, List.set_cons_zero, List.set_cons_succ]
  have HH2 := Lib.hid hHeld
  refine wpAnyH_done (by kernel_rfl) ?_ _
  clear hHeld
  have hBq := HB0.out.trans (HH2.out.mono (by omega))
  have T0 : ToldIn lo w.heap.size w wq2 hs (l.map List.length) (.slice ala l.length cla) (.slice aca cols.length cca) cols.length :=
    ⟨Own.kept OLa.out.own hBq, by rw [List.length_map]; exact OLa.out.len, fun i h h2 => by
      rw [List.getElem_map]
      exact (Shp.ofOwn (OLa.out.row i h (by simpa using h2))).below hBq (Nat.le_refl _), (Shp.ofOwn OCa.out).below hBq (Nat.le_refl _), HA.out.below HH2.out hb1l, hBq.mono hlo, Below.only hBq⟩
  have HT0 := Lib.hid T0
  obtain ⟨d0, d1⟩ := T0.box.cells.c2
  simp only [Nat.zero_add] at d1
  have hml := HLa.out.len
  have hql := HCa.out.len
  clear hBq T0
  go_wp2_with fail
  go_loopw [25] (fun t25 wr => ∃ k : Nat, k ≤ l.length ∧ t25 = .int .i64 k ∧ ToldIn lo w.heap.size w wr hs (l.map List.length) (.slice ala l.length cla) (.slice aca cols.length cca) cols.length) (fun t25 _ => l.length - (intOf t25).toNat)
  case atStart => exact ⟨0, Nat.zero_le _, rfl, HT0.out⟩
  case round =>
    clear d0 d1
    obtain ⟨k, hk, rfl, hT⟩ := hrel
    obtain ⟨wo, ewo⟩ : ∃ x, x = wr := ⟨_, rfl⟩
    subst ewo
    have HT := Lib.hid hT
    have kk0 : (0 : Int) ≤ (k : Int) := by omega
    obtain ⟨d0, d1⟩ := hT.box.cells.c2
    simp only [Nat.zero_add] at d1
    clear hT
    by_cases hlt : k < l.length
    · have kkl : (k : Int) < (l.length : Int) := by omega
      have hkh : k < hs.length := by rw [OLa.out.len]; exact hlt
      obtain ⟨ao', cap', e', -, -, -, hc⟩ := (OwnH.sl HT.out.own).form
      injection e' with e1 e2 e3
      subst e1 e3
      obtain ⟨b, off, rfl, hb1, hb2, hcc⟩ := hc k hkh
      clear hcc hc e2
      obtain ⟨p, cp, ep⟩ := Own.slice (OLa.out.row k hkh hlt)
      have hnl := (OwnV.sl (OLa.out.row k hkh hlt)).len
      have Htb : Hid (∀ q, (Value.slice p l[k].length cp).ownBlock = some q → TB (.slice aca cols.length cca) hs q) := Lib.hid (fun q hq => .inr ⟨hs[k], List.getElem_mem hkh, by rw [ep]; exact hq⟩)
      have Hap : Hid (∀ q, (Value.slice p l[k].length cp).ownBlock = some q → (Value.slice (some ⟨b, off, none⟩) l.length cla).ownBlock ≠ some q) := Lib.hid (by rw [← ep]; exact OLa.out.apart k hkh)
      have Hhead : Hid (∀ wr', ToldIn lo w.heap.size w wr' hs (l.map List.length) (.slice (some ⟨b, off, none⟩) l.length cla) (.slice aca cols.length cca) cols.length → wr'.cell? ⟨b, off + k, none⟩ = some (.slice p l[k].length cp)) := Lib.hid (fun wr' h => by
        obtain ⟨ao', cap', e', -, -, -, hc⟩ := (OwnH.sl h.own).form
        injection e' with e1 e2 e3
        obtain ⟨b', off', e4, -, -, hcc⟩ := hc k hkh
        rw [e4] at e1
        injection e1 with e1
        injection e1 with e5 e6
        subst e5 e6
        obtain ⟨cs, _, hcs, rfl⟩ := hcc k hkh
        have g0 := hcs.c1
        rw [Nat.mul_one, ep] at g0
        exact g0)
      have Hrow : Hid (∀ wr', ToldIn lo w.heap.size w wr' hs (l.map List.length) (.slice (some ⟨b, off, none⟩) l.length cla) (.slice aca cols.length cca) cols.length → Shp 24 3 lo w.heap.size wr' (.slice p l[k].length cp) l[k].length) := Lib.hid (fun wr' h => by
        have := h.row k hkh (by rw [List.length_map]; exact hlt)
        rw [List.getElem_map, ep] at this
        exact this)
      have g0 := Hhead.out _ HT.out
      clear ep
      generalize l[k].length = n at *
      go_wp2_with fail
      go_loopw [34] (fun t34 wr => ∃ j : Nat, j ≤ n ∧ t34 = .int .i64 j ∧ ToldIn lo w.heap.size w wr hs (l.map List.length) (.slice (some ⟨b, off, none⟩) l.length cla) (.slice aca cols.length cca) cols.length) (fun t34 _ => n - (intOf t34).toNat)
      case atStart => exact ⟨0, Nat.zero_le _, rfl, HT.out⟩
      case round =>
        clear d0 d1 g0 HT
        obtain ⟨j, hj, rfl, hT⟩ := hrel
        obtain ⟨wi, ewi⟩ : ∃ x, x = wr := ⟨_, rfl⟩
        subst ewi
        have HT := Lib.hid hT
        have jj0 : (0 : Int) ≤ (j : Int) := by omega
        obtain ⟨d0, d1⟩ := hT.box.cells.c2
        simp only [Nat.zero_add] at d1
        have g0 := Hhead.out _ hT
        clear hT
        by_cases hjt : j < n
        · have jjl : (j : Int) < (n : Int) := by omega
          obtain ⟨g, cap, ev, q1, q2, q3, q4, q5, q6⟩ := (Hrow.out _ HT.out).cell hjt
          injection ev with ev1 ev2 ev3
          subst ev1 ev3
          obtain ⟨u0, hu0⟩ := q5 0 (by omega)
          obtain ⟨u1, hu1⟩ := q5 1 (by omega)
          obtain ⟨u2, hu2⟩ := q5 2 (by omega)
          rw [Nat.add_zero] at hu0
          have hf0 := q6 (j * 3)
          have hf1 := q6 (j * 3 + 1)
          have hf2 := q6 (j * 3 + 2)
          have HTn := Lib.hid (((HT.out.set (b := g) (i := j * 3) (.int .i64 99) q1 q2 (Hap.out g rfl) (Htb.out g rfl)).set (b := g) (i := j * 3 + 1) (.int .i64 0) q1 q2 (Hap.out g rfl) (Htb.out g rfl)).set (b := g) (i := j * 3 + 2) (.string ⟨#[]⟩) q1 q2 (Hap.out g rfl) (Htb.out g rfl))
          clear q5 q6
          go_wp2_with fail
          go_roundw
          case rel => exact ⟨j + 1, by omega, by go_num, HTn.out⟩
          case measure => simp [intOf]; omega
        · obtain rfl : j = n := by omega
          have nln : ¬ ((j : Nat) : Int) < (j : Int) := by omega
          go_wp2_with fail
          go_roundw
          case rel => exact ⟨k + 1, by omega, by go_num, HT.out⟩
          case measure => simp [intOf]; omega
    · obtain rfl : k = l.length := by omega
      have llt : ¬ ((l.length : Nat) : Int) < (l.length : Int) := by omega
      go_wp2_with fail
      go_loopw [50] (fun t50 wr => ∃ k : Nat, k ≤ cols.length ∧ t50 = .int .i64 k ∧ ToldIn lo w.heap.size w wr hs (l.map List.length) (.slice ala l.length cla) (.slice aca cols.length cca) cols.length) (fun t50 _ => cols.length - (intOf t50).toNat)
      case atStart => exact ⟨0, Nat.zero_le _, rfl, HT.out⟩
      case round =>
        clear d0 d1 HT kk0
        obtain ⟨k, hk, rfl, hT⟩ := hrel
        obtain ⟨wo, ewo⟩ : ∃ x, x = wr := ⟨_, rfl⟩
        subst ewo
        have HT := Lib.hid hT
        have kk0 : (0 : Int) ≤ (k : Int) := by omega
        obtain ⟨d0, d1⟩ := hT.box.cells.c2
        simp only [Nat.zero_add] at d1
        clear hT
        by_cases hlt : k < cols.length
        · have kkl : (k : Int) < (cols.length : Int) := by omega
          obtain ⟨g, cap, ev, g1, g2, g3, g4, g5, g6⟩ := HT.out.col.cell hlt
          injection ev with ev1 ev2 ev3
          subst ev1 ev3
          obtain ⟨u, hu⟩ := g5 0 (by omega)
          rw [Nat.mul_one, Nat.add_zero] at hu
          have hfz := g6 k
          have HTn := Lib.hid (HT.out.set (b := g) (i := k) (.string ⟨#[115, 112, 111, 105, 108, 116]⟩) g1 g2 (fun e => Own.apartT OLa.out.own OCa.out (by decide) e rfl) (.inl rfl))
          clear g5 g6
          go_wp2_with fail
          go_roundw
          case rel => exact ⟨k + 1, by omega, by go_num, HTn.out⟩
          case measure => simp [intOf]; omega
        · obtain rfl : k = cols.length := by omega
          have llt : ¬ ((cols.length : Nat) : Int) < (cols.length : Int) := by omega
          have hr := HR.out _ HT.out.bel HT.out.only
          go_wp2_with fail
          first | exact hr | exact fin hr rfl
theorem told_any (lo lo2 hi2 lc2 hc2 : Nat) (cols : List S) (l : List (List V)) (hs : List Value) (ca cb la lb : Value) (e : Int) (w : World) (hlo : lo ≤ w.heap.size) (hca : OwnT lo w ca cols) (hcb : Strs lc2 hc2 w cb cols) (hla : OwnR lo w la hs l) (hlb : Rws lo2 hi2 w lb l) (h2 : hc2 ≤ w.heap.size) (h4 : hi2 ≤ w.heap.size) (hrs : ∀ x ∈ l, ∀ a ∈ x, a.s.length ≤ 9223372036854775807) (R : Ending → World → Prop)
    (hR : ∀ w', Below lo w w' → R (.returned (.bool true)) w') : Calls Try.prog 28 #[.agg #[ca, la], .int .i64 e, .agg #[cb, lb], .int .i64 e] w R :=
  toldO_any lo lo2 hi2 lc2 hc2 cols l hs ca cb la lb e w hlo hca hcb hla hlb h2 h4 hrs R (fun w' h _ => hR w' h)
/-- A block of relations is not written over. -/
theorem TB.not {lo : Nat} {w : World} {ca la : Value} {hs : List Value} {cols : List S} {l : List (List V)} (hT : OwnT lo w ca cols) (hR : OwnR lo w la hs l) {b : Nat} {cs : List Value} {t : TypeId} (hb : Blk w b cs t) (h1 : t ≠ 9) (h2 : t ≠ 24) : ¬ TB ca hs b := by
  rintro (h | ⟨h, hh, e⟩)
  · exact Own.ne_blk hT hb h1 h
  · obtain ⟨i, hi, rfl⟩ := List.getElem_of_mem hh
    exact Own.ne_blk (hR.row i hi (by rw [← hR.len]; exact hi)) hb h2 e
end Go.Proofs.Ytpncblagjkbemaa
end

/- The law RowsOf, walked. (Printed by rowt.py.) -/
section
namespace Go.Proofs.Ytpncblagjkbemaa
open Go.RowKit
set_option linter.unusedVariables false
set_option linter.unusedSimpArgs false

theorem great_no {cols : List S} {l : List (List V)} (h : greatB cols l = false) : cols.length ≤ 60 ∧ l.length ≤ 150 ∧ ∀ x ∈ l, x.length ≤ 60 := by
  unfold greatB at h
  simp only [Bool.or_eq_false_iff, decide_eq_false_iff_not, List.any_eq_false, decide_eq_true_eq] at h
  exact ⟨by omega, by omega, fun x hx => by have := h.2 x hx; omega⟩
set_option maxRecDepth 100000 in
set_option maxHeartbeats 4000000 in
theorem RowsOf_any (lo hi lc hc : Nat) (cols : List S) (l : List (List V)) (cv lv : Value) (w : World) (hcols : Strs lc hc w cv cols) (hhc : hc ≤ w.heap.size) (hv : Rws lo hi w lv l) (hhi : hi ≤ w.heap.size) (hrs : ∀ x ∈ l, ∀ a ∈ x, a.s.length ≤ 9223372036854775807) (R : Ending → World → Prop)
    (hR : ∀ w', Below w.heap.size w w' → R (.returned (.bool true)) w') : Calls Try.prog 5 #[cv, lv] w R := by
  have HR := Lib.hid hR
  have Hv := Lib.hid hv
  have Hc := Lib.hid hcols
  have Hrs := Lib.hid hrs
  obtain ⟨ac, cc, rfl, -, -, -, -⟩ := hcols.form
  obtain ⟨av, cv2, rfl, -, -, -, -⟩ := hv.form
  clear hR hv hcols hrs
  go_enter Try.func5, Try.ntmps5
  go_wp2_with fail
  refine great_any lo hi cols ac cc l _ w Hv.out _ ?_
  cases hg : greatB cols l
  · obtain ⟨hcl, hll, hxl⟩ := great_no hg
    have Hxl := Lib.hid hxl
    clear hg hxl
    go_wp2_with fail
    refine lawOwn_any lo hi lc hc cols ac cc l _ w Hc.out hhc Hv.out hhi (by omega) (by omega) (fun x hx => by have := Hxl.out x hx; omega) _ (fun w1 cv3 lv3 hB1 hc3 hv3 => ?_)
    have HB1 := Lib.hid hB1
    have Hc3 := Lib.hid hc3
    have Hv3 := Lib.hid hv3
    obtain ⟨ac3, cc3, rfl, -, -, -, -⟩ := hc3.form
    obtain ⟨av3, cv4, rfl, -, -, -, -⟩ := hv3.form
    clear hB1 hc3 hv3
    go_upto_region 5 with fail
    have hBa := alloc_below w1 (.cells #[.slice ac3 cols.length cc3, .slice av3 l.length cv4] 34)
    have hba := Blk.new w1 [.slice ac3 cols.length cc3, .slice av3 l.length cv4] 34 rfl
    generalize w1.alloc (.cells #[.slice ac3 cols.length cc3, .slice av3 l.length cv4] 34) = w2 at *
    have HBa := Lib.hid hBa
    have Hba := Lib.hid hba
    have hzw := HB1.out.size
    have hza := hBa.size
    have hbal := hba.lt
    clear hBa hba
    go_loopw [6] (fun t6 wr => ∃ k : Nat, 1 ≤ k ∧ k ≤ l.length + 1 ∧ t6 = .int .i64 k ∧ Below w2.heap.size w2 wr) (fun t6 _ => l.length + 1 - (intOf t6).toNat)
    case atStart => exact ⟨1, Nat.le_refl _, by omega, rfl, Below.refl _ _⟩
    case round =>
      obtain ⟨k, hk1, hk, rfl, hB⟩ := hrel
      obtain ⟨wo, ewo⟩ : ∃ x, x = wr := ⟨_, rfl⟩
      subst ewo
      have hz := hB.size
      have HB := Lib.hid hB
      have HBw := Lib.hid ((HB1.out.trans (HBa.out.mono hzw)).trans (hB.mono (by omega)))
      have hzo := HBw.out.size
      have kk0 : (0 : Int) ≤ (k : Int) := by omega
      have Hva := Lib.hid (Sl.below Hv3.out rowE_loc ((HBa.out.trans (HB.out.mono hza))) (Nat.le_refl _))
      have Hca := Lib.hid (Sl.below Hc3.out Strs.loc ((HBa.out.trans (HB.out.mono hza))) (Nat.le_refl _))
      have Hvl := Lib.hid (Sl.below Hv.out rowE_loc HBw.out hhi)
      have Hcl := Lib.hid (Sl.below Hc.out Strs.loc HBw.out hhc)
      have Hbo := Lib.hid (Hba.out.below HB.out hbal)
      clear hB
      by_cases hlt : k < l.length
      · have kkl : (k : Int) < (l.length : Int) := by omega
        obtain ⟨b3, o3, rfl, hb3, hrow3⟩ := Rws.at Hva.out (by omega) (by omega)
        obtain ⟨b4, o4, rfl, hb4, hrow4⟩ := Rws.at Hvl.out (by omega) (by omega)
        have hjl : k - 1 < l.length := by omega
        have kjl : (k : Int) - 1 < (l.length : Int) := by omega
        obtain ⟨j, ej⟩ : ∃ j, j = k - 1 := ⟨_, rfl⟩
        have hkj : (k : Int) - 1 = (j : Int) := by omega
        have jj0 : (0 : Int) ≤ (j : Int) := by omega
        have jjl : (j : Int) < (l.length : Int) := by omega
        obtain ⟨p1, c1, g1, r1⟩ := hrow3 j (by omega)
        obtain ⟨p2, c2, g2, r2⟩ := hrow3 k hlt
        obtain ⟨p3, c3, g3, r3⟩ := hrow4 j (by omega)
        obtain ⟨p4, c4, g4, r4⟩ := hrow4 k hlt
        have G1 := Lib.hid g1
        have G2 := Lib.hid g2
        have G3 := Lib.hid g3
        have G4 := Lib.hid g4
        have R1 := Lib.hid r1
        have R2 := Lib.hid r2
        have R3 := Lib.hid r3
        have R4 := Lib.hid r4
        have M1 := Lib.hid (Hrs.out _ (List.getElem_mem (show j < l.length by omega)))
        have M2 := Lib.hid (Hrs.out _ (List.getElem_mem hlt))
        clear hrow3 hrow4 g1 g2 g3 g4 r1 r2 r3 r4 ej hjl kjl
        generalize l[j] = xa at *
        generalize l[k] = xb at *
        go_upto_region 7 with fail
        have hS0 : Below wo.heap.size wo wo.drew := (Below.refl _ _).drew
        refine wp_region_held_drew (S := fun w' => Below wo.heap.size wo w') (by kernel_rfl) hS0 (fun hHeld => ?_)
        refine wpAnyH_take (i := 0) (v := .pointer (some ⟨w1.heap.size, 1, none⟩)) rfl (by kernel_rfl) (by kernel_rfl) (by kernel_rfl) (fun _ _ _ h => h) (Or.inl ⟨by rfl, ?_⟩) hHeld ?_
        · intro w' hSw; go_simp
        try simp only [Act.put, List.getElem_toArray, List.getElem_cons_succ, List.getElem_cons_zero, List.setIfInBounds_toArray, List.set_cons_zero, List.set_cons_succ]
        refine wpAnyH_take (i := 1) (v := .slice (some ⟨b3, o3, none⟩) l.length cv4) rfl (by kernel_rfl) (by kernel_rfl) (by kernel_rfl) (fun _ _ _ h => h) (Or.inl ⟨by rfl, ?_⟩) hHeld ?_
        · intro w' hSw; obtain ⟨z0, z1⟩ := (Hbo.out.below hSw (by omega)).cells.c2; simp only [Nat.zero_add] at z1; go_simp
        try simp only [Act.put, List.getElem_toArray, List.getElem_cons_succ, List.getElem_cons_zero, List.setIfInBounds_toArray, List.set_cons_zero, List.set_cons_succ]
        refine wpAnyH_take (i := 2) (v := .int .i64 ((k : Int))) rfl (by kernel_rfl) (by kernel_rfl) (by kernel_rfl) (fun _ _ _ h => h) (Or.inl ⟨by rfl, ?_⟩) hHeld ?_
        · intro w' hSw; go_simp
        try simp only [Act.put, List.getElem_toArray, List.getElem_cons_succ, List.getElem_cons_zero, List.setIfInBounds_toArray, List.set_cons_zero, List.set_cons_succ]
        refine wpAnyH_take (i := 3) (v := .int .i64 ((j : Int))) rfl (by kernel_rfl) (by kernel_rfl) (by kernel_rfl) (fun _ _ _ h => h) (Or.inl ⟨by rfl, ?_⟩) hHeld ?_
        · intro w' hSw; go_simp; exact wrapOk jj0 (by omega)
        try simp only [Act.put, List.getElem_toArray, List.getElem_cons_succ, List.getElem_cons_zero, List.setIfInBounds_toArray, List.set_cons_zero, List.set_cons_succ]
        refine wpAnyH_take (i := 4) (v := .pointer (some ⟨b3, o3 + j, none⟩)) rfl (by kernel_rfl) (by kernel_rfl) (by kernel_rfl) (fun _ _ _ h => h) (Or.inl ⟨by rfl, ?_⟩) hHeld ?_
        · intro w' hSw; go_simp
        try simp only [Act.put, List.getElem_toArray, List.getElem_cons_succ, List.getElem_cons_zero, List.setIfInBounds_toArray, List.set_cons_zero, List.set_cons_succ]
        refine wpAnyH_take (i := 5) (v := .slice p1 xa.length c1) rfl (by kernel_rfl) (by kernel_rfl) (by kernel_rfl) (fun _ _ _ h => h) (Or.inl ⟨by rfl, ?_⟩) hHeld ?_
        · intro w' hSw; have kx := G1.out w' hSw; go_simp
        try simp only [Act.put, List.getElem_toArray, List.getElem_cons_succ, List.getElem_cons_zero, List.setIfInBounds_toArray, List.set_cons_zero, List.set_cons_succ]
        refine wpAnyH_take (i := 6) (v := .pointer (some ⟨w1.heap.size, 1, none⟩)) rfl (by kernel_rfl) (by kernel_rfl) (by kernel_rfl) (fun _ _ _ h => h) (Or.inl ⟨by rfl, ?_⟩) hHeld ?_
        · intro w' hSw; go_simp
        try simp only [Act.put, List.getElem_toArray, List.getElem_cons_succ, List.getElem_cons_zero, List.setIfInBounds_toArray, List.set_cons_zero, List.set_cons_succ]
        refine wpAnyH_take (i := 7) (v := .slice (some ⟨b3, o3, none⟩) l.length cv4) rfl (by kernel_rfl) (by kernel_rfl) (by kernel_rfl) (fun _ _ _ h => h) (Or.inl ⟨by rfl, ?_⟩) hHeld ?_
        · intro w' hSw; obtain ⟨z0, z1⟩ := (Hbo.out.below hSw (by omega)).cells.c2; simp only [Nat.zero_add] at z1; go_simp
        try simp only [Act.put, List.getElem_toArray, List.getElem_cons_succ, List.getElem_cons_zero, List.setIfInBounds_toArray, List.set_cons_zero, List.set_cons_succ]
        refine wpAnyH_take (i := 8) (v := .int .i64 ((k : Int))) rfl (by kernel_rfl) (by kernel_rfl) (by kernel_rfl) (fun _ _ _ h => h) (Or.inl ⟨by rfl, ?_⟩) hHeld ?_
        · intro w' hSw; go_simp
        try simp only [Act.put, List.getElem_toArray, List.getElem_cons_succ, List.getElem_cons_zero, List.setIfInBounds_toArray, List.set_cons_zero, List.set_cons_succ]
        refine wpAnyH_take (i := 9) (v := .pointer (some ⟨b3, o3 + k, none⟩)) rfl (by kernel_rfl) (by kernel_rfl) (by kernel_rfl) (fun _ _ _ h => h) (Or.inl ⟨by rfl, ?_⟩) hHeld ?_
        · intro w' hSw; go_simp
        try simp only [Act.put, List.getElem_toArray, List.getElem_cons_succ, List.getElem_cons_zero, List.setIfInBounds_toArray, List.set_cons_zero, List.set_cons_succ]
        refine wpAnyH_take (i := 10) (v := .slice p2 xb.length c2) rfl (by kernel_rfl) (by kernel_rfl) (by kernel_rfl) (fun _ _ _ h => h) (Or.inl ⟨by rfl, ?_⟩) hHeld ?_
        · intro w' hSw; have kx := G2.out w' hSw; go_simp
        try simp only [Act.put, List.getElem_toArray, List.getElem_cons_succ, List.getElem_cons_zero, List.setIfInBounds_toArray, List.set_cons_zero, List.set_cons_succ]
        refine wpAnyH_take (i := 12) (v := .slice (some ⟨b4, o4, none⟩) l.length cv2) rfl (by kernel_rfl) (by kernel_rfl) (by kernel_rfl) (fun _ _ _ h => h) (Or.inl ⟨by rfl, ?_⟩) hHeld ?_
        · intro w' hSw; go_simp
        try simp only [Act.put, List.getElem_toArray, List.getElem_cons_succ, List.getElem_cons_zero, List.setIfInBounds_toArray, List.set_cons_zero, List.set_cons_succ]
        refine wpAnyH_take (i := 13) (v := .int .i64 ((k : Int))) rfl (by kernel_rfl) (by kernel_rfl) (by kernel_rfl) (fun _ _ _ h => h) (Or.inl ⟨by rfl, ?_⟩) hHeld ?_
        · intro w' hSw; go_simp
        try simp only [Act.put, List.getElem_toArray, List.getElem_cons_succ, List.getElem_cons_zero, List.setIfInBounds_toArray, List.set_cons_zero, List.set_cons_succ]
        refine wpAnyH_take (i := 14) (v := .int .i64 ((j : Int))) rfl (by kernel_rfl) (by kernel_rfl) (by kernel_rfl) (fun _ _ _ h => h) (Or.inl ⟨by rfl, ?_⟩) hHeld ?_
        · intro w' hSw; go_simp; exact wrapOk jj0 (by omega)
        try simp only [Act.put, List.getElem_toArray, List.getElem_cons_succ, List.getElem_cons_zero, List.setIfInBounds_toArray, List.set_cons_zero, List.set_cons_succ]
        refine wpAnyH_take (i := 15) (v := .pointer (some ⟨b4, o4 + j, none⟩)) rfl (by kernel_rfl) (by kernel_rfl) (by kernel_rfl) (fun _ _ _ h => h) (Or.inl ⟨by rfl, ?_⟩) hHeld ?_
        · intro w' hSw; go_simp
        try simp only [Act.put, List.getElem_toArray, List.getElem_cons_succ, List.getElem_cons_zero, List.setIfInBounds_toArray, List.set_cons_zero, List.set_cons_succ]
        refine wpAnyH_take (i := 16) (v := .slice p3 xa.length c3) rfl (by kernel_rfl) (by kernel_rfl) (by kernel_rfl) (fun _ _ _ h => h) (Or.inl ⟨by rfl, ?_⟩) hHeld ?_
        · intro w' hSw; have kx := G3.out w' hSw; go_simp
        try simp only [Act.put, List.getElem_toArray, List.getElem_cons_succ, List.getElem_cons_zero, List.setIfInBounds_toArray, List.set_cons_zero, List.set_cons_succ]
        refine wpAnyH_take (i := 17) (v := .slice (some ⟨b4, o4, none⟩) l.length cv2) rfl (by kernel_rfl) (by kernel_rfl) (by kernel_rfl) (fun _ _ _ h => h) (Or.inl ⟨by rfl, ?_⟩) hHeld ?_
        · intro w' hSw; go_simp
        try simp only [Act.put, List.getElem_toArray, List.getElem_cons_succ, List.getElem_cons_zero, List.setIfInBounds_toArray, List.set_cons_zero, List.set_cons_succ]
        refine wpAnyH_take (i := 18) (v := .int .i64 ((k : Int))) rfl (by kernel_rfl) (by kernel_rfl) (by kernel_rfl) (fun _ _ _ h => h) (Or.inl ⟨by rfl, ?_⟩) hHeld ?_
        · intro w' hSw; go_simp
        try simp only [Act.put, List.getElem_toArray, List.getElem_cons_succ, List.getElem_cons_zero, List.setIfInBounds_toArray, List.set_cons_zero, List.set_cons_succ]
        refine wpAnyH_take (i := 19) (v := .pointer (some ⟨b4, o4 + k, none⟩)) rfl (by kernel_rfl) (by kernel_rfl) (by kernel_rfl) (fun _ _ _ h => h) (Or.inl ⟨by rfl, ?_⟩) hHeld ?_
        · intro w' hSw; go_simp
        try simp only [Act.put, List.getElem_toArray, List.getElem_cons_succ, List.getElem_cons_zero, List.setIfInBounds_toArray, List.set_cons_zero, List.set_cons_succ]
        refine wpAnyH_take (i := 20) (v := .slice p4 xb.length c4) rfl (by kernel_rfl) (by kernel_rfl) (by kernel_rfl) (fun _ _ _ h => h) (Or.inl ⟨by rfl, ?_⟩) hHeld ?_
        · intro w' hSw; have kx := G4.out w' hSw; go_simp
        try simp only [Act.put, List.getElem_toArray, List.getElem_cons_succ, List.getElem_cons_zero, List.setIfInBounds_toArray, List.set_cons_zero, List.set_cons_succ]
        refine wpAnyH_ready (rs := [11]) (by kernel_rfl) (by simp) ?_
        refine allCall (f := 24) (args := #[.slice p1 xa.length c1, .slice p2 xb.length c2]) rfl (by kernel_rfl) (by kernel_rfl) ?_ AllReadyH.nil
        refine rowsCompareB_any _ _ _ _ xa xb _ _ wo.drew (Sl.below R1.out Row1.loc hHeld (by omega)) (Sl.below R2.out Row1.loc hHeld (by omega)) (by have := hHeld.size; omega) (by have := hHeld.size; omega) _ (fun wq1 hB => ?_)
        refine ⟨_, rfl, hHeld.trans (hB.mono hHeld.size), ?_⟩
        have hHeld2 := hHeld.trans (hB.mono hHeld.size)
        clear hHeld
        have hHeld := hHeld2
        clear hHeld2
        clear hB
        try simp only [Act.put, List.getElem_toArray, List.getElem_cons_succ, List.getElem_cons_zero, List.setIfInBounds_toArray, List.set_cons_zero, List.set_cons_succ]
        refine wpAnyH_ready (rs := [21]) (by kernel_rfl) (by simp) ?_
        refine allCall (f := 25) (args := #[.slice p3 xa.length c3, .slice p4 xb.length c4]) rfl (by kernel_rfl) (by kernel_rfl) ?_ AllReadyH.nil
        refine refRowsCompare_any _ _ _ _ xa xb _ _ wq1 (Sl.below R3.out Row1.loc hHeld (by omega)) (Sl.below R4.out Row1.loc hHeld (by omega)) (by have := hHeld.size; omega) (by have := hHeld.size; omega) M1.out M2.out _ (fun wq2 hB => ?_)
        refine ⟨_, rfl, hHeld.trans (hB.mono hHeld.size), ?_⟩
        have hHeld2 := hHeld.trans (hB.mono hHeld.size)
        clear hHeld
        have hHeld := hHeld2
        clear hHeld2
        clear hB
        try simp only [Act.put, List.getElem_toArray, List.getElem_cons_succ, List.getElem_cons_zero, List.setIfInBounds_toArray, List.set_cons_zero, List.set_cons_succ]
        refine wpAnyH_take (i := 22) (v := .bool false) rfl (by kernel_rfl) (by kernel_rfl) (by kernel_rfl) (fun _ _ _ h => h) (Or.inl ⟨by rfl, ?_⟩) hHeld ?_
        · intro w' hSw; go_simp
        try simp only [Act.put, List.getElem_toArray, List.getElem_cons_succ, List.getElem_cons_zero, List.setIfInBounds_toArray, List.set_cons_zero, List.set_cons_succ]
        have HH2 := Lib.hid hHeld
        refine wpAnyH_done (by kernel_rfl) ?_ _
        clear hHeld
        have Hn := Lib.hid (HB.out.trans (HH2.out.mono (by omega)))
        go_wp2_with fail
        go_roundw
        case rel => exact ⟨k + 1, by omega, by omega, by go_num, Hn.out⟩
        case measure => simp [intOf]; omega
      · have llt : ¬ (k : Int) < (l.length : Int) := by omega
        clear hk1 hk kk0 HB HBa
        obtain ⟨d0, d1⟩ := Hbo.out.cells.c2
        simp only [Nat.zero_add] at d1
        obtain ⟨oc, hoc⟩ : ∃ oc, okL (ofErr cols l) cols = oc := ⟨_, rfl⟩
        obtain ⟨ol, hol⟩ : ∃ ol, okL (ofErr cols l) (relCanon l) = ol := ⟨_, rfl⟩
        have Hos : Hid (∀ x ∈ ol, ∀ a ∈ x, a.s.length ≤ 9223372036854775807) := Lib.hid (fun x hx => Hrs.out x (relCanon_mem (okL_mem (by rw [hol]; exact hx))))
        go_wp2_with fail
        refine OfK_any w.heap.size w1.heap.size w.heap.size w1.heap.size cols l _ _ wo Hca.out Hva.out (by omega) (by omega) (by omega) (fun x hx => by have := Hxl.out x hx; omega) _ (fun w5 cv5 lv5 hs5 hB5 hT5 hR5 => ?_)
        rw [hoc] at hT5
        rw [hol] at hR5
        obtain ⟨p5, q5, rfl⟩ := Own.slice hT5
        obtain ⟨p6, q6, e6⟩ := Own.slice hR5.own
        rw [hR5.len] at e6
        subst e6
        have HB5 := Lib.hid hB5
        have HT5 := Lib.hid hT5
        have HR5 := Lib.hid hR5
        have hz5 := hB5.size
        clear hB5 hT5 hR5
        clear d0 d1
        go_upto_region 10 with fail
        have hBa := alloc_below w5 (.cells #[.slice p5 oc.length q5, .slice p6 ol.length q6] 34)
        have hba := Blk.new w5 [.slice p5 oc.length q5, .slice p6 ol.length q6] 34 rfl
        generalize w5.alloc (.cells #[.slice p5 oc.length q5, .slice p6 ol.length q6] 34) = w6 at *
        have HB6 := Lib.hid hBa
        have Hb6 := Lib.hid hba
        have hz6 := hBa.size
        have hl6 := hba.lt
        have HW6 := Lib.hid (HBw.out.trans ((HB5.out.mono hzo).trans (HB6.out.mono (by omega))))
        clear hBa hba
        go_wp2_with fail
        refine refOfK_any lo hi lc hc cols _ _ l _ w6 (Sl.below Hc.out Strs.loc HW6.out hhc) (by omega) (Sl.below Hv.out rowE_loc HW6.out hhi) (by omega) (by omega) (fun x hx => by have := Hxl.out x hx; omega) Hrs.out _ (fun w7 cv7 lv7 hB7 hT7 hR7 => ?_)
        rw [hoc] at hT7
        rw [hol] at hR7
        obtain ⟨p7, q7, rfl, -, -, -, -⟩ := hT7.form
        obtain ⟨p8, q8, rfl, -, -, -, -⟩ := hR7.form
        have HB7 := Lib.hid hB7
        have HT7 := Lib.hid hT7
        have HR7 := Lib.hid hR7
        have hz7 := hB7.size
        clear hB7 hT7 hR7
        go_upto_region 11 with fail
        have hBa := alloc_below w7 (.cells #[.slice p7 oc.length q7, .slice p8 ol.length q8] 53)
        have hba := Blk.new w7 [.slice p7 oc.length q7, .slice p8 ol.length q8] 53 rfl
        generalize w7.alloc (.cells #[.slice p7 oc.length q7, .slice p8 ol.length q8] 53) = w8 at *
        have HB8 := Lib.hid hBa
        have hz8 := hBa.size
        have hl8 := hba.lt
        have HB58 := Lib.hid ((HB6.out.trans (HB7.out.mono (by omega))).trans (HB8.out.mono (by omega)))
        have HBo8 := Lib.hid (HB5.out.trans (HB58.out.mono hz5))
        obtain ⟨d0, d1⟩ := (Hb6.out.below (HB7.out.trans (HB8.out.mono hz7)) hl6).cells.c2
        obtain ⟨e0, e1⟩ := hba.cells.c2
        simp only [Nat.zero_add] at d1 e1
        clear hBa hba
        go_wp2_with fail
        refine told_any wo.heap.size 0 w7.heap.size 0 w7.heap.size oc ol hs5 _ _ _ _ _ w8 (by omega) (Own.kept HT5.out HB58.out) (Sl.below HT7.out Strs.loc HB8.out (Nat.le_refl _)) (OwnR.kept HR5.out HB58.out) (Sl.below HR7.out rowE_loc HB8.out (Nat.le_refl _)) (by omega) (by omega) Hos.out _ (fun w9 hB9 => ?_)
        have HBo9 := Lib.hid (HBo8.out.trans hB9)
        have hz9 := HBo9.out.size
        obtain ⟨d0, d1⟩ := (Hbo.out.below HBo9.out (by omega)).cells.c2
        simp only [Nat.zero_add] at d1
        clear hB9
        go_wp2_with fail
        refine lawSame_any w.heap.size w1.heap.size lo hi w.heap.size w1.heap.size lc hc cols l _ _ _ _ w9 (Sl.below Hca.out Strs.loc HBo9.out (by omega)) (Sl.below Hcl.out Strs.loc HBo9.out (by omega)) (Sl.below Hva.out rowE_loc HBo9.out (by omega)) (Sl.below Hvl.out rowE_loc HBo9.out (by omega)) (by omega) (by omega) (by omega) (by omega) Hrs.out _ (fun w10 hB10 => ?_)
        have hr := HR.out w10 ((HBw.out.trans (HBo9.out.mono hzo)).trans (hB10.mono (by omega)))
        clear hB10
        go_wp2_with fail
        first | exact hr | exact fin hr rfl
  · have hr := HR.out w (Below.refl _ _)
    clear hg
    go_wp2_with fail
    first | exact hr | exact fin hr rfl
end Go.Proofs.Ytpncblagjkbemaa
end
