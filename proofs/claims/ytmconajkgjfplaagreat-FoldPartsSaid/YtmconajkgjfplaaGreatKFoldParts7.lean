/- FoldParts holds outright: for any relation and columns the call returns true, and the arguments read behind it as before. No condition. -/
import Derived.Test.YtmconajkgjfplaaGreatKFoldParts6
/- The law FoldParts, walked. (Printed by grh.py.) -/
section
set_option linter.unusedVariables false
set_option linter.unusedSimpArgs false
namespace Go.Proofs.YtmconajkgjfplaaGreat
open Go.RowKit
set_option linter.unusedVariables false
set_option linter.unusedSimpArgs false
attribute [local go_sem ↓] Go.wp_at_zero Go.wp_at_succ
structure AtC (W : World) (b o : Nat) (cs : List Value) : Prop where
  cells : CellsAt W b o cs
  lt : b < W.heap.size
theorem AtC.below {W W' : World} {b o : Nat} {cs : List Value} (h : AtC W b o cs) (hB : Below W.heap.size W W') : AtC W' b o cs :=
  ⟨h.cells.agree (.below hB (Nat.le_refl _)) (Nat.zero_le _) h.lt, Nat.lt_of_lt_of_le h.lt hB.size⟩
set_option maxRecDepth 1000000 in
set_option maxHeartbeats 100000000 in
theorem FoldParts_any {pa qa : Option Addr} {na ma : Nat} {rc cols : List S} {l : List (List V)} {bv : Value} (w : World) (h1 : RelH w pa na qa ma rc l) (hcols : Strs 0 w.heap.size w bv cols) (hok : ∀ x ∈ l, ∀ a ∈ x, a.ok) (R : Ending → World → Prop)
    (hR : ∀ w', Below w.heap.size w w' → R (.returned (.bool true)) w') : Calls Tryz.prog 3 #[.agg #[.slice pa rc.length na, .slice qa l.length ma], bv] w R := by
  have HR := Lib.hid hR
  have Hok := Lib.hid hok
  have Hrs : Hid (∀ x ∈ l, ∀ a ∈ x, a.s.length ≤ 9223372036854775807) := Lib.hid (fun x hx a ha => ok_len (hok x hx a ha))
  obtain ⟨ak, ck, rfl, -, -, -, -⟩ := hcols.form
  have hcl63 := h1.strs.len
  have hkl63 := hcols.len
  obtain ⟨wa, ewa⟩ : ∃ x, x = w.alloc (.cells #[.slice pa rc.length na, .slice qa l.length ma] 25) := ⟨_, rfl⟩
  have hBa : Below w.heap.size w wa := by rw [ewa]; exact alloc_below _ _
  have hb1 : RelAt wa w.heap.size pa na qa ma rc l := by rw [ewa]; exact RelH.box h1 rfl
  have hby : (Pd.strs cols).says (.slice ak cols.length ck) wa := Pd.step (p := .strs cols) hcols hBa
  clear hR hok h1 hcols
  go_enter Tryz.func3, Tryz.ntmps3
  go_upto_region 1 with fail
  rw [← ewa]
  clear ewa
  obtain ⟨b2, eb2⟩ : ∃ b, b = w.heap.size := ⟨_, rfl⟩
  rw [← eb2]
  rw [← eb2] at hb1
  clear eb2
  have HB := Lib.hid (hBa)
  have Hr := Lib.hid (hb1)
  have Hby := Lib.hid (hby)
  clear hBa hb1 hby
  go_wp2_with fail
  refine alive16_P wa _ (fun wc1 hB => ?_)
  replace HB := Lib.hid (HB.out.trans (hB.mono HB.out.size))
  replace Hr := Lib.hid (Hr.out.below hB)
  replace Hby := Lib.hid (Pd.step Hby.out hB)
  clear hB
  obtain ⟨c0, c1⟩ := Hr.out.blk.cells.c2
  simp only [Nat.zero_add] at c1
  go_wp2_with fail
  refine great16_any 0 wc1.heap.size rc _ _ l _ _ cols.length _ wc1 Hr.out.rel.rws (Nat.le_refl _) (by omega) (by omega) _ (fun wb hB => ?_)
  clear c0 c1
  replace HB := Lib.hid (HB.out.trans (hB.mono HB.out.size))
  replace Hr := Lib.hid (Hr.out.below hB)
  replace Hby := Lib.hid (Pd.step Hby.out hB)
  clear hB
  cases hg : great16B rc l cols.length
  case true =>
    clear hg
    have hr := HR.out wb HB.out
    go_wp2_with fail
    first | exact hr | exact fin hr rfl
  obtain ⟨hcl, hll, hkl, hxl⟩ := great16_no hg
  have Hxl := Lib.hid hxl
  clear hg hxl
  obtain ⟨c0, c1⟩ := Hr.out.blk.cells.c2
  simp only [Nat.zero_add] at c1
  have hl12 : cols.length ≤ 1000000000000 := by omega
  have hll12 : l.length ≤ 1000000000000 := by omega
  have Hl12 := Lib.hid hl12
  have Hll12 := Lib.hid hll12
  clear hl12 hll12
  cases hrb : rightB rc l cols
  case false =>
    have Hrb := Lib.hid hrb
    clear hrb
    go_wp2_with fail
    refine Groups_K Hr.out.rel Hby.out Hl12.out (e := 2) (rs := []) (grpErr_bad Hrb.out) rfl _ (fun wc2 v hB hV => ?_)
    obtain ⟨p3, q4, rfl⟩ := RLs.slice hV
    replace HB := Lib.hid (HB.out.trans (hB.mono HB.out.size))
    replace Hr := Lib.hid (Hr.out.below hB)
    replace Hby := Lib.hid (Pd.step Hby.out hB)
    have Hls := Lib.hid (hV)
    clear hB hV c0 c1
    obtain ⟨c0, c1⟩ := Hr.out.blk.cells.c2
    simp only [Nat.zero_add] at c1
    simp only [List.length_nil]
    go_wp2_with fail
    refine Project_K Hr.out.rel Hby.out Hl12.out Hll12.out (e := 2) (co := []) (lo := []) (proj_bad Hrb.out) rfl rfl _ (fun wc5 v hB hV => ?_)
    obtain ⟨p6, q7, p8, q9, rfl, hV⟩ := hV
    replace HB := Lib.hid (HB.out.trans (hB.mono HB.out.size))
    replace Hr := Lib.hid (Hr.out.below hB)
    replace Hby := Lib.hid (Pd.step Hby.out hB)
    replace Hls := Lib.hid (RLs.kept Hls.out hB)
    have Hrel10 := Lib.hid (show (Pd.rel _ _).says _ _ from ⟨_, _, _, _, rfl, hV⟩)
    clear hB hV
    go_upto_region 6 with fail
    have hb := RelH.box (n := wc5.heap.size) (relH Hrel10.out) rfl
    have hB := alloc_below wc5 (.cells #[.slice p6 0 q7, .slice p8 0 q9] 25)
    try simp only [List.length_cons, List.length_nil, Nat.zero_add, Nat.reduceAdd] at hb
    generalize wc5.alloc (.cells #[.slice p6 0 q7, .slice p8 0 q9] 25) = w11 at *
    obtain ⟨b8, eb8⟩ : ∃ b, b = wc5.heap.size := ⟨_, rfl⟩
    rw [← eb8] at hb ⊢
    clear eb8
    replace HB := Lib.hid (HB.out.trans (hB.mono HB.out.size))
    replace Hr := Lib.hid (Hr.out.below hB)
    replace Hby := Lib.hid (Pd.step Hby.out hB)
    replace Hrel10 := Lib.hid (Pd.step Hrel10.out hB)
    replace Hls := Lib.hid (RLs.kept Hls.out hB)
    have Hk := Lib.hid (hb)
    clear hB hb
    clear Hrel10
    clear c0 c1
    have hr := HR.out w11 HB.out
    go_wp2_with fail
    first | exact hr | exact fin hr rfl
  have Hrb := Lib.hid hrb
  have Hm : Hid (mayRel rc l = true) := Lib.hid (right_may hrb)
  obtain ⟨G, eG⟩ : ∃ G, G = grpL rc l cols := ⟨_, rfl⟩
  obtain ⟨K, eK⟩ : ∃ K, K = keysL (grpK rc cols) l := ⟨_, rfl⟩
  have HG := Lib.hid eG
  have HK := Lib.hid eK
  have HKG : Hid (K.length = G.length) := Lib.hid (by rw [eG, eK, grpL_len])
  have hG100 : G.length ≤ 100 := by rw [← HKG.out, HK.out]; exact Nat.le_trans keys_le hll
  clear hrb eG eK
  go_wp2_with fail
  refine Groups_K Hr.out.rel Hby.out Hl12.out (e := 0) (rs := G) (grpErr_right Hrb.out) (by rw [HG.out]; rfl) _ (fun wc2 v hB hV => ?_)
  obtain ⟨p3, q4, rfl⟩ := RLs.slice hV
  replace HB := Lib.hid (HB.out.trans (hB.mono HB.out.size))
  replace Hr := Lib.hid (Hr.out.below hB)
  replace Hby := Lib.hid (Pd.step Hby.out hB)
  have Hls := Lib.hid (hV)
  clear hB hV c0 c1
  obtain ⟨c0, c1⟩ := Hr.out.blk.cells.c2
  simp only [Nat.zero_add] at c1
  go_wp2_with fail
  refine Project_K Hr.out.rel Hby.out Hl12.out Hll12.out (e := 0) (co := cols) (lo := K) (proj_good Hrb.out) rfl (by rw [HK.out]; rfl) _ (fun wc5 v hB hV => ?_)
  obtain ⟨p6, q7, p8, q9, rfl, hV⟩ := hV
  replace HB := Lib.hid (HB.out.trans (hB.mono HB.out.size))
  replace Hr := Lib.hid (Hr.out.below hB)
  replace Hby := Lib.hid (Pd.step Hby.out hB)
  replace Hls := Lib.hid (RLs.kept Hls.out hB)
  have Hrel10 := Lib.hid (show (Pd.rel _ _).says _ _ from ⟨_, _, _, _, rfl, hV⟩)
  clear hB hV
  go_upto_region 6 with fail
  have hb := RelH.box (n := wc5.heap.size) (relH Hrel10.out) rfl
  have hB := alloc_below wc5 (.cells #[.slice p6 cols.length q7, .slice p8 K.length q9] 25)
  try simp only [List.length_cons, List.length_nil, Nat.zero_add, Nat.reduceAdd] at hb
  generalize wc5.alloc (.cells #[.slice p6 cols.length q7, .slice p8 K.length q9] 25) = w11 at *
  obtain ⟨b8, eb8⟩ : ∃ b, b = wc5.heap.size := ⟨_, rfl⟩
  rw [← eb8] at hb ⊢
  clear eb8
  replace HB := Lib.hid (HB.out.trans (hB.mono HB.out.size))
  replace Hr := Lib.hid (Hr.out.below hB)
  replace Hby := Lib.hid (Pd.step Hby.out hB)
  replace Hrel10 := Lib.hid (Pd.step Hrel10.out hB)
  replace Hls := Lib.hid (RLs.kept Hls.out hB)
  have Hk := Lib.hid (hb)
  clear hB hb
  clear Hrel10
  clear c0 c1
  obtain ⟨c0, c1⟩ := Hk.out.blk.cells.c2
  simp only [Nat.zero_add] at c1
  obtain ⟨d0, d1⟩ := Hr.out.blk.cells.c2
  simp only [Nat.zero_add] at d1
  rw [HKG.out] at c1
  go_upto_region 12 with fail
  have hq : RelH w11 pa na none 0 rc ([] : List (List V)) := ⟨Hr.out.rel.strs, Sl.nil _ _ _ _ _⟩
  have hb := hq.box (n := w11.heap.size) rfl
  have hBk := alloc_below w11 (.cells #[.slice pa rc.length na, .slice none 0 0] 25)
  simp only [List.length_nil] at hb
  generalize w11.alloc (.cells #[.slice pa rc.length na, .slice none 0 0] 25) = wk at *
  obtain ⟨b11, eb11⟩ : ∃ b, b = w11.heap.size := ⟨_, rfl⟩
  have Hb11 : Hid (w11.heap.size ≤ b11) := Lib.hid (by omega)
  rw [← eb11] at hb ⊢
  clear eb11 hq c0 c1 d0 d1
  have HBk := Lib.hid hBk
  have Hall := Lib.hid hb
  clear hBk hb
  go_wp2_with fail
  go_loopw [10, 71] (fun t10 t71 wr => ∃ k s : Nat, k ≤ G.length ∧ Hid (s = ((G.take k).map List.length).sum) ∧ t71 = .int .i64 k ∧ t10 = .int .i64 s ∧ Below w11.heap.size w11 wr ∧ ∃ pc qc pl ql, RelAt wr b11 pc qc pl ql rc (relCanon (G.take k).flatten)) (fun _ t71 _ => G.length - (intOf t71).toNat)
  case atStart => exact ⟨0, 0, Nat.zero_le _, Lib.hid (by simp), rfl, rfl, HBk.out, pa, na, none, 0, Hall.out⟩
  case round =>
    obtain ⟨k, s, hk, Hs, rfl, rfl, hBk, pc, qc, pl, ql, hall⟩ := hrel
    obtain ⟨wo, ewo⟩ : ∃ x, x = wr := ⟨_, rfl⟩
    subst ewo
    clear HBk Hall
    have HBk := Lib.hid hBk
    have Hall := Lib.hid hall
    replace HB := Lib.hid (HB.out.trans (hBk.mono HB.out.size))
    replace Hr := Lib.hid (Hr.out.below hBk)
    replace Hby := Lib.hid (Pd.step Hby.out hBk)
    replace Hk := Lib.hid (Hk.out.below hBk)
    replace Hls := Lib.hid (RLs.kept Hls.out hBk)
    clear hBk hall
    have kk0 : (0 : Int) ≤ (k : Int) := by omega
    by_cases hlt : k < G.length
    · have hkK : k < K.length := by rw [HKG.out]; exact hlt
      have kkl : (k : Int) < (G.length : Int) := by omega
      obtain ⟨bg, og, pg, qg, ph, qh, ep6, hbg, hcg, hrg⟩ := RLs.at Hls.out hlt
      subst ep6
      have Hgp : Hid (projErr rc G[k] cols = 0) := Lib.hid (by have e := HG.out; subst e; exact grp_proj_at Hrb.out hlt)
      have Hgk : Hid (relCanon (G[k].map fun x => pickL x (placesL cols rc)) = [K[k]]) := Lib.hid (by have e := HG.out; have e2 := HK.out; subst e e2; exact grp_key_at hlt hkK)
      have Hgo : Hid (orErr rc (relCanon (G.take k).flatten) rc G[k] = 0) := Lib.hid (by have e := HG.out; subst e; exact union_err Hm.out hlt)
      have Hgr : Hid (relCanon (relCanon (G.take k).flatten ++ G[k].map fun x => pickL x (placesL rc rc)) = relCanon (G.take (k + 1)).flatten) := Lib.hid (by have e := HG.out; subst e; exact union_rows Hm.out hlt)
      have Hgs : Hid (s + G[k].length = ((G.take (k + 1)).map List.length).sum) := Lib.hid (by rw [sum_step hlt, Hs.out])
      have hs100 : s + G[k].length ≤ 100 := by
        have h1 := Hgs.out
        have h2 : ((G.take (k + 1)).map List.length).sum ≤ l.length := by have e := HG.out; subst e; exact grp_sum_le (k + 1)
        omega
      have hgl12 : G[k].length ≤ 1000000000000 := by omega
      have Hgl12 := Lib.hid hgl12
      obtain ⟨U2, hU2⟩ : ∃ x, x = relCanon (G.take (k + 1)).flatten := ⟨_, rfl⟩
      obtain ⟨S2, hS2⟩ : ∃ x, x = ((G.take (k + 1)).map List.length).sum := ⟨_, rfl⟩
      rw [← hU2] at Hgr
      rw [← hS2] at Hgs
      have HU2 := Lib.hid hU2
      obtain ⟨key, hkey⟩ : ∃ x, x = K[k] := ⟨_, rfl⟩
      rw [← hkey] at Hgk
      have Hkey := Lib.hid hkey
      clear hkey
      have HS2 := Lib.hid hS2
      clear hU2 hS2 hgl12 Hs
      generalize G[k] = g at *
      generalize relCanon (G.take k).flatten = U at *
      have hcg2 : AtC wo bg (og + k * 2) [.slice pg rc.length qg, .slice ph g.length qh] := ⟨hcg, hbg⟩
      have ky := hcg.runVar (P := Tryz.prog) (t := 25) (fun _ => by kernel_rfl) (fun _ => by kernel_rfl)
      obtain ⟨y0, y1⟩ := hcg.c2
      have Hcg := Lib.hid (hcg2)
      have Hrg := Lib.hid (hrg)
      clear hcg hcg2 hrg hbg
      go_wp2_with fail
      refine Project_K Hrg.out Hby.out Hl12.out Hgl12.out (e := 0) (co := cols) (lo := [key]) Hgp.out rfl (by rw [Hgk.out]; rfl) _ (fun wc12 v hB hV => ?_)
      obtain ⟨p13, q14, p15, q16, rfl, hV⟩ := hV
      replace HB := Lib.hid (HB.out.trans (hB.mono HB.out.size))
      replace Hr := Lib.hid (Hr.out.below hB)
      replace Hby := Lib.hid (Pd.step Hby.out hB)
      replace Hk := Lib.hid (Hk.out.below hB)
      replace HBk := Lib.hid (HBk.out.trans (hB.mono HBk.out.size))
      replace Hall := Lib.hid (Hall.out.below hB)
      replace Hls := Lib.hid (RLs.kept Hls.out hB)
      replace Hcg := Lib.hid (AtC.below Hcg.out hB)
      replace Hrg := Lib.hid (Hrg.out.below hB)
      have Hrel17 := Lib.hid (show (Pd.rel _ _).says _ _ from ⟨_, _, _, _, rfl, hV⟩)
      clear hB hV
      clear ky y0 y1
      go_upto_region 17 with fail
      have hb := RelH.box (n := wc12.heap.size) (relH Hrel17.out) rfl
      have hB := alloc_below wc12 (.cells #[.slice p13 cols.length q14, .slice p15 1 q16] 25)
      try simp only [List.length_cons, List.length_nil, Nat.zero_add, Nat.reduceAdd] at hb
      generalize wc12.alloc (.cells #[.slice p13 cols.length q14, .slice p15 1 q16] 25) = w18 at *
      obtain ⟨b13, eb13⟩ : ∃ b, b = wc12.heap.size := ⟨_, rfl⟩
      rw [← eb13] at hb ⊢
      clear eb13
      replace HB := Lib.hid (HB.out.trans (hB.mono HB.out.size))
      replace Hr := Lib.hid (Hr.out.below hB)
      replace Hby := Lib.hid (Pd.step Hby.out hB)
      replace Hk := Lib.hid (Hk.out.below hB)
      replace HBk := Lib.hid (HBk.out.trans (hB.mono HBk.out.size))
      replace Hall := Lib.hid (Hall.out.below hB)
      replace Hrel17 := Lib.hid (Pd.step Hrel17.out hB)
      replace Hls := Lib.hid (RLs.kept Hls.out hB)
      replace Hcg := Lib.hid (AtC.below Hcg.out hB)
      replace Hrg := Lib.hid (Hrg.out.below hB)
      have Ho := Lib.hid (hb)
      clear hB hb
      clear Hrel17
      obtain ⟨bl, ol, el, hbl, hatl⟩ := Rws.at (l := [key]) Ho.out.rel.rws (Nat.le_refl _) Nat.one_pos
      obtain ⟨ql1, ml1, hcl1, hrow1⟩ := hatl 0 Nat.one_pos
      replace hcl1 : ∀ w', Below w18.heap.size w18 w' → w'.cell? ⟨bl, ol, none⟩ = some (.slice ql1 key.length ml1) := hcl1
      replace hrow1 : Row1 0 w18.heap.size w18 (.slice ql1 key.length ml1) key := hrow1
      obtain ⟨bk, ok, ek, hbk, hatk⟩ := Rws.at (l := K) Hk.out.rel.rws (Nat.le_refl _) (by omega)
      obtain ⟨ql2, ml2, hcl2, hrow2⟩ := hatk k hkK
      rw [← Hkey.out] at hcl2 hrow2
      subst el ek
      have Hcl1 := Lib.hid hcl1
      have Hcl2 := Lib.hid hcl2
      have Hrow1 := Lib.hid hrow1
      have Hrow2 := Lib.hid hrow2
      clear hcl1 hcl2 hrow1 hrow2 hatl hatk hbl hbk
      refine wp_region_held_drew (S := fun w' => Below w18.heap.size w18 w') (by kernel_rfl) (Below.refl _ _).drew (fun hHeld => ?_)
      refine wpAnyH_take (i := 0) (v := .int .i64 0) rfl (by kernel_rfl) (by kernel_rfl) (by kernel_rfl) (fun _ _ _ h => h) (Or.inl ⟨by rfl, ?_⟩) hHeld ?_
      · intro w' hSw; go_simp
      try simp only [Act.put, List.getElem_toArray, List.getElem_cons_succ, List.getElem_cons_zero, List.setIfInBounds_toArray, List.set_cons_zero, List.set_cons_succ]
      refine wpAnyH_take (i := 1) (v := .bool false) rfl (by kernel_rfl) (by kernel_rfl) (by kernel_rfl) (fun _ _ _ h => h) (Or.inl ⟨by rfl, ?_⟩) hHeld ?_
      · intro w' hSw; go_simp
      try simp only [Act.put, List.getElem_toArray, List.getElem_cons_succ, List.getElem_cons_zero, List.setIfInBounds_toArray, List.set_cons_zero, List.set_cons_succ]
      refine wpAnyH_take (i := 2) (v := .bool false) rfl (by kernel_rfl) (by kernel_rfl) (by kernel_rfl) (fun _ _ _ h => h) (Or.inl ⟨by rfl, ?_⟩) hHeld ?_
      · intro w' hSw; go_simp
      try simp only [Act.put, List.getElem_toArray, List.getElem_cons_succ, List.getElem_cons_zero, List.setIfInBounds_toArray, List.set_cons_zero, List.set_cons_succ]
      refine wpAnyH_take (i := 3) (v := .pointer (some ⟨b13, 1, none⟩)) rfl (by kernel_rfl) (by kernel_rfl) (by kernel_rfl) (fun _ _ _ h => h) (Or.inl ⟨by rfl, ?_⟩) hHeld ?_
      · intro w' hSw; go_simp
      try simp only [Act.put, List.getElem_toArray, List.getElem_cons_succ, List.getElem_cons_zero, List.setIfInBounds_toArray, List.set_cons_zero, List.set_cons_succ]
      refine wpAnyH_take (i := 4) (v := .slice (some ⟨bl, ol, none⟩) 1 q16) rfl (by kernel_rfl) (by kernel_rfl) (by kernel_rfl) (fun _ _ _ h => h) (Or.inl ⟨by rfl, ?_⟩) hHeld ?_
      · intro w' hSw; have kc := (Ho.out.blk.below hSw Ho.out.blk.lt).cells; obtain ⟨z0, z1⟩ := kc.c2; simp only [Nat.zero_add] at z1; go_simp
      try simp only [Act.put, List.getElem_toArray, List.getElem_cons_succ, List.getElem_cons_zero, List.setIfInBounds_toArray, List.set_cons_zero, List.set_cons_succ]
      refine wpAnyH_take (i := 5) (v := .int .i64 1) rfl (by kernel_rfl) (by kernel_rfl) (by kernel_rfl) (fun _ _ _ h => h) (Or.inl ⟨by rfl, ?_⟩) hHeld ?_
      · intro w' hSw; go_simp
      try simp only [Act.put, List.getElem_toArray, List.getElem_cons_succ, List.getElem_cons_zero, List.setIfInBounds_toArray, List.set_cons_zero, List.set_cons_succ]
      refine wpAnyH_take (i := 6) (v := .bool false) rfl (by kernel_rfl) (by kernel_rfl) (by kernel_rfl) (fun _ _ _ h => h) (Or.inl ⟨by rfl, ?_⟩) hHeld ?_
      · intro w' hSw; go_simp
      try simp only [Act.put, List.getElem_toArray, List.getElem_cons_succ, List.getElem_cons_zero, List.setIfInBounds_toArray, List.set_cons_zero, List.set_cons_succ]
      refine wpAnyH_take (i := 7) (v := .bool false) rfl (by kernel_rfl) (by kernel_rfl) (by kernel_rfl) (fun _ _ _ h => h) (Or.inl ⟨by rfl, ?_⟩) hHeld ?_
      · intro w' hSw; go_simp
      try simp only [Act.put, List.getElem_toArray, List.getElem_cons_succ, List.getElem_cons_zero, List.setIfInBounds_toArray, List.set_cons_zero, List.set_cons_succ]
      refine wpAnyH_take (i := 8) (v := .bool false) rfl (by kernel_rfl) (by kernel_rfl) (by kernel_rfl) (fun _ _ _ h => h) (Or.inl ⟨by rfl, ?_⟩) hHeld ?_
      · intro w' hSw; go_simp
      try simp only [Act.put, List.getElem_toArray, List.getElem_cons_succ, List.getElem_cons_zero, List.setIfInBounds_toArray, List.set_cons_zero, List.set_cons_succ]
      refine wpAnyH_take (i := 9) (v := .pointer (some ⟨b13, 1, none⟩)) rfl (by kernel_rfl) (by kernel_rfl) (by kernel_rfl) (fun _ _ _ h => h) (Or.inl ⟨by rfl, ?_⟩) hHeld ?_
      · intro w' hSw; go_simp
      try simp only [Act.put, List.getElem_toArray, List.getElem_cons_succ, List.getElem_cons_zero, List.setIfInBounds_toArray, List.set_cons_zero, List.set_cons_succ]
      refine wpAnyH_take (i := 10) (v := .slice (some ⟨bl, ol, none⟩) 1 q16) rfl (by kernel_rfl) (by kernel_rfl) (by kernel_rfl) (fun _ _ _ h => h) (Or.inl ⟨by rfl, ?_⟩) hHeld ?_
      · intro w' hSw; have kc := (Ho.out.blk.below hSw Ho.out.blk.lt).cells; obtain ⟨z0, z1⟩ := kc.c2; simp only [Nat.zero_add] at z1; go_simp
      try simp only [Act.put, List.getElem_toArray, List.getElem_cons_succ, List.getElem_cons_zero, List.setIfInBounds_toArray, List.set_cons_zero, List.set_cons_succ]
      refine wpAnyH_take (i := 11) (v := .pointer (some ⟨bl, ol, none⟩)) rfl (by kernel_rfl) (by kernel_rfl) (by kernel_rfl) (fun _ _ _ h => h) (Or.inl ⟨by rfl, ?_⟩) hHeld ?_
      · intro w' hSw; go_simp
      try simp only [Act.put, List.getElem_toArray, List.getElem_cons_succ, List.getElem_cons_zero, List.setIfInBounds_toArray, List.set_cons_zero, List.set_cons_succ]
      refine wpAnyH_take (i := 12) (v := .slice ql1 key.length ml1) rfl (by kernel_rfl) (by kernel_rfl) (by kernel_rfl) (fun _ _ _ h => h) (Or.inl ⟨by rfl, ?_⟩) hHeld ?_
      · intro w' hSw; have kx := Hcl1.out w' hSw; go_simp
      try simp only [Act.put, List.getElem_toArray, List.getElem_cons_succ, List.getElem_cons_zero, List.setIfInBounds_toArray, List.set_cons_zero, List.set_cons_succ]
      refine wpAnyH_take (i := 13) (v := .pointer (some ⟨b8, 1, none⟩)) rfl (by kernel_rfl) (by kernel_rfl) (by kernel_rfl) (fun _ _ _ h => h) (Or.inl ⟨by rfl, ?_⟩) hHeld ?_
      · intro w' hSw; go_simp
      try simp only [Act.put, List.getElem_toArray, List.getElem_cons_succ, List.getElem_cons_zero, List.setIfInBounds_toArray, List.set_cons_zero, List.set_cons_succ]
      refine wpAnyH_take (i := 14) (v := .slice (some ⟨bk, ok, none⟩) G.length q9) rfl (by kernel_rfl) (by kernel_rfl) (by kernel_rfl) (fun _ _ _ h => h) (Or.inl ⟨by rfl, ?_⟩) hHeld ?_
      · intro w' hSw; have kc := (Hk.out.blk.below hSw Hk.out.blk.lt).cells; obtain ⟨z0, z1⟩ := kc.c2; simp only [Nat.zero_add] at z1; rw [HKG.out] at z1; go_simp
      try simp only [Act.put, List.getElem_toArray, List.getElem_cons_succ, List.getElem_cons_zero, List.setIfInBounds_toArray, List.set_cons_zero, List.set_cons_succ]
      refine wpAnyH_take (i := 15) (v := .int .i64 ((k : Int))) rfl (by kernel_rfl) (by kernel_rfl) (by kernel_rfl) (fun _ _ _ h => h) (Or.inl ⟨by rfl, ?_⟩) hHeld ?_
      · intro w' hSw; go_simp
      try simp only [Act.put, List.getElem_toArray, List.getElem_cons_succ, List.getElem_cons_zero, List.setIfInBounds_toArray, List.set_cons_zero, List.set_cons_succ]
      refine wpAnyH_take (i := 16) (v := .pointer (some ⟨bk, ok + k, none⟩)) rfl (by kernel_rfl) (by kernel_rfl) (by kernel_rfl) (fun _ _ _ h => h) (Or.inl ⟨by rfl, ?_⟩) hHeld ?_
      · intro w' hSw; go_simp
      try simp only [Act.put, List.getElem_toArray, List.getElem_cons_succ, List.getElem_cons_zero, List.setIfInBounds_toArray, List.set_cons_zero, List.set_cons_succ]
      refine wpAnyH_take (i := 17) (v := .slice ql2 key.length ml2) rfl (by kernel_rfl) (by kernel_rfl) (by kernel_rfl) (fun _ _ _ h => h) (Or.inl ⟨by rfl, ?_⟩) hHeld ?_
      · intro w' hSw; have kx := Hcl2.out w' hSw; go_simp
      try simp only [Act.put, List.getElem_toArray, List.getElem_cons_succ, List.getElem_cons_zero, List.setIfInBounds_toArray, List.set_cons_zero, List.set_cons_succ]
      refine wpAnyH_ready (rs := [18]) (by kernel_rfl) (by simp) ?_
      refine allCall (f := 9) (args := #[.slice ql1 key.length ml1, .slice ql2 key.length ml2]) rfl (by kernel_rfl) (by kernel_rfl) ?_ AllReadyH.nil
      refine rowsCompareB_any 0 w18.heap.size 0 w18.heap.size key key _ _ w18.drew (Sl.below Hrow1.out Row1.loc hHeld (Nat.le_refl _)) (Sl.below Hrow2.out Row1.loc hHeld (Nat.le_refl _)) hHeld.size hHeld.size _ (fun wq1 hB => ?_)
      rw [cmpR_self]
      refine ⟨_, rfl, hHeld.trans (hB.mono hHeld.size), ?_⟩
      have hHeld2 := hHeld.trans (hB.mono hHeld.size)
      clear hHeld
      have hHeld := hHeld2
      clear hHeld2
      clear hB
      try simp only [Act.put, List.getElem_toArray, List.getElem_cons_succ, List.getElem_cons_zero, List.setIfInBounds_toArray, List.set_cons_zero, List.set_cons_succ]
      refine wpAnyH_take (i := 19) (v := .bool false) rfl (by kernel_rfl) (by kernel_rfl) (by kernel_rfl) (fun _ _ _ h => h) (Or.inl ⟨by rfl, ?_⟩) hHeld ?_
      · intro w' hSw; go_simp
      try simp only [Act.put, List.getElem_toArray, List.getElem_cons_succ, List.getElem_cons_zero, List.setIfInBounds_toArray, List.set_cons_zero, List.set_cons_succ]
      refine wpAnyH_take (i := 20) (v := .bool false) rfl (by kernel_rfl) (by kernel_rfl) (by kernel_rfl) (fun _ _ _ h => h) (Or.inl ⟨by rfl, ?_⟩) hHeld ?_
      · intro w' hSw; go_simp
      try simp only [Act.put, List.getElem_toArray, List.getElem_cons_succ, List.getElem_cons_zero, List.setIfInBounds_toArray, List.set_cons_zero, List.set_cons_succ]
      refine wpAnyH_done (by kernel_rfl) ?_ _
      have hB := hHeld
      clear hHeld
      replace HB := Lib.hid (HB.out.trans (hB.mono HB.out.size))
      replace Hr := Lib.hid (Hr.out.below hB)
      replace Hby := Lib.hid (Pd.step Hby.out hB)
      replace Hk := Lib.hid (Hk.out.below hB)
      replace HBk := Lib.hid (HBk.out.trans (hB.mono HBk.out.size))
      replace Hall := Lib.hid (Hall.out.below hB)
      replace Ho := Lib.hid (Ho.out.below hB)
      replace Hls := Lib.hid (RLs.kept Hls.out hB)
      replace Hcg := Lib.hid (AtC.below Hcg.out hB)
      replace Hrg := Lib.hid (Hrg.out.below hB)
      clear hB
      go_upto_region 19 with fail
      clear Ho
      refine region_meet (ι := Nat × Option Addr × Nat × Option Addr × Nat) (fun ⟨b15, pn, qn, pm, qm⟩ => [(113, .agg #[.slice pc rc.length qc, .slice pl U.length ql]), (114, .slice (some ⟨bg, og, none⟩) G.length q4), (115, .int .i64 ((k : Int))), (116, .pointer (some ⟨bg, og + k * 2, none⟩)), (117, .agg #[.slice pg rc.length qg, .slice ph g.length qh]), (118, .tuple #[.agg #[.slice pn rc.length qn, .slice pm U2.length qm], .int .i64 0]), (112, .tuple #[.agg #[.slice pn rc.length qn, .slice pm U2.length qm], .int .i64 0]), (119, .agg #[.slice pn rc.length qn, .slice pm U2.length qm]), (120, .int .i64 0), (15, .pointer (some ⟨b15, 0, none⟩)), (16, .int .i64 0)]) (fun ⟨b15, pn, qn, pm, qm⟩ w' => Below wq1.heap.size wq1 w' ∧ Blk w' b15 [.slice pn rc.length qn, .slice pm U2.length qm] 25 ∧ RelOwn wq1.heap.size w' pn qn pm qm rc U2) ?_ ?_
      · refine wp_region_held_drew (S := fun w' => Below wq1.heap.size wq1 w') (by kernel_rfl) (Below.refl _ _).drew (fun hHeld => ?_)
        refine wpAnyH_take (i := 0) (v := .agg #[.slice pc rc.length qc, .slice pl U.length ql]) rfl (by kernel_rfl) (by kernel_rfl) (by kernel_rfl) (fun _ _ _ h => h) (Or.inl ⟨by rfl, ?_⟩) hHeld ?_
        · intro w' hSw; have kc := (Hall.out.blk.below hSw Hall.out.blk.lt).cells; have kx := kc.runVar (P := Tryz.prog) (t := 25) (fun _ => by kernel_rfl) (fun _ => by kernel_rfl); obtain ⟨z0, z1⟩ := kc.c2; simp only [Nat.zero_add] at z1; go_simp
        try simp only [Act.put, List.getElem_toArray, List.getElem_cons_succ, List.getElem_cons_zero, List.setIfInBounds_toArray, List.set_cons_zero, List.set_cons_succ]
        refine wpAnyH_take (i := 1) (v := .slice (some ⟨bg, og, none⟩) G.length q4) rfl (by kernel_rfl) (by kernel_rfl) (by kernel_rfl) (fun _ _ _ h => h) (Or.inl ⟨by rfl, ?_⟩) hHeld ?_
        · intro w' hSw; go_simp
        try simp only [Act.put, List.getElem_toArray, List.getElem_cons_succ, List.getElem_cons_zero, List.setIfInBounds_toArray, List.set_cons_zero, List.set_cons_succ]
        refine wpAnyH_take (i := 2) (v := .int .i64 ((k : Int))) rfl (by kernel_rfl) (by kernel_rfl) (by kernel_rfl) (fun _ _ _ h => h) (Or.inl ⟨by rfl, ?_⟩) hHeld ?_
        · intro w' hSw; go_simp
        try simp only [Act.put, List.getElem_toArray, List.getElem_cons_succ, List.getElem_cons_zero, List.setIfInBounds_toArray, List.set_cons_zero, List.set_cons_succ]
        refine wpAnyH_take (i := 3) (v := .pointer (some ⟨bg, og + k * 2, none⟩)) rfl (by kernel_rfl) (by kernel_rfl) (by kernel_rfl) (fun _ _ _ h => h) (Or.inl ⟨by rfl, ?_⟩) hHeld ?_
        · intro w' hSw; go_simp
        try simp only [Act.put, List.getElem_toArray, List.getElem_cons_succ, List.getElem_cons_zero, List.setIfInBounds_toArray, List.set_cons_zero, List.set_cons_succ]
        refine wpAnyH_take (i := 4) (v := .agg #[.slice pg rc.length qg, .slice ph g.length qh]) rfl (by kernel_rfl) (by kernel_rfl) (by kernel_rfl) (fun _ _ _ h => h) (Or.inl ⟨by rfl, ?_⟩) hHeld ?_
        · intro w' hSw; have kc := (Hcg.out.below hSw).cells; have kx := kc.runVar (P := Tryz.prog) (t := 25) (fun _ => by kernel_rfl) (fun _ => by kernel_rfl); obtain ⟨z0, z1⟩ := kc.c2; go_simp
        try simp only [Act.put, List.getElem_toArray, List.getElem_cons_succ, List.getElem_cons_zero, List.setIfInBounds_toArray, List.set_cons_zero, List.set_cons_succ]
        refine wpAnyH_ready (rs := [5, 9]) (by kernel_rfl) (by simp) ?_
        refine allCall (f := 10) (args := #[.agg #[.slice pc rc.length qc, .slice pl U.length ql], .agg #[.slice pg rc.length qg, .slice ph g.length qh]]) rfl (by kernel_rfl) (by kernel_rfl) ?_ ?_
        · refine Or_O (e := 0) (co := rc) (l2 := U2) (Hall.out.rel.below hHeld) (Hrg.out.below hHeld) (by omega) Hgo.out rfl (by rw [Hgr.out]; rfl) hHeld.size _ (fun wm1 pn qn pm qm hB hon => ?_)
          refine ⟨_, rfl, hHeld.trans (hB.mono hHeld.size), ?_⟩
          have hHeld2 := hHeld.trans (hB.mono hHeld.size)
          clear hHeld
          have hHeld := hHeld2
          clear hHeld2 hB
          have hon2 := hon
          clear hon
          try simp only [Act.put, List.getElem_toArray, List.getElem_cons_succ, List.getElem_cons_zero, List.setIfInBounds_toArray, List.set_cons_zero, List.set_cons_succ]
          refine wpAnyH_take (i := 6) (v := .tuple #[.agg #[.slice pn rc.length qn, .slice pm U2.length qm], .int .i64 0]) rfl (by kernel_rfl) (by kernel_rfl) (by kernel_rfl) (fun _ _ _ h => h) (Or.inl ⟨by rfl, ?_⟩) hHeld ?_
          · intro w' hSw; go_simp
          try simp only [Act.put, List.getElem_toArray, List.getElem_cons_succ, List.getElem_cons_zero, List.setIfInBounds_toArray, List.set_cons_zero, List.set_cons_succ]
          refine wpAnyH_take (i := 7) (v := .agg #[.slice pn rc.length qn, .slice pm U2.length qm]) rfl (by kernel_rfl) (by kernel_rfl) (by kernel_rfl) (fun _ _ _ h => h) (Or.inl ⟨by rfl, ?_⟩) hHeld ?_
          · intro w' hSw; go_simp
          try simp only [Act.put, List.getElem_toArray, List.getElem_cons_succ, List.getElem_cons_zero, List.setIfInBounds_toArray, List.set_cons_zero, List.set_cons_succ]
          refine wpAnyH_take (i := 8) (v := .int .i64 0) rfl (by kernel_rfl) (by kernel_rfl) (by kernel_rfl) (fun _ _ _ h => h) (Or.inl ⟨by rfl, ?_⟩) hHeld ?_
          · intro w' hSw; go_simp
          try simp only [Act.put, List.getElem_toArray, List.getElem_cons_succ, List.getElem_cons_zero, List.setIfInBounds_toArray, List.set_cons_zero, List.set_cons_succ]
          refine wpAnyH_ready (rs := [9]) (by kernel_rfl) (by simp) ?_
          refine allVal (v := .pointer (some ⟨wm1.heap.size, 0, none⟩)) (w' := wm1.alloc (.cells #[.slice none 0 0, .slice none 0 0] 25)) rfl (by kernel_rfl) (by go_simp) (hHeld.trans ((alloc_below wm1 (.cells #[.slice none 0 0, .slice none 0 0] 25)).mono hHeld.size)) ?_ AllReadyH.nil
          have hB := alloc_below wm1 (.cells #[.slice none 0 0, .slice none 0 0] 25)
          have hbn := Blk.new wm1 [.slice none 0 0, .slice none 0 0] 25 rfl
          have hbkl := hHeld.size
          generalize wm1.alloc (.cells #[.slice none 0 0, .slice none 0 0] 25) = wm2 at *
          obtain ⟨b15, eb⟩ : ∃ b, b = wm1.heap.size := ⟨_, rfl⟩
          rw [← eb] at hbn hbkl ⊢
          clear eb
          replace hon2 := hon2.below hB
          have hHeld2 := hHeld.trans (hB.mono hHeld.size)
          clear hHeld
          have hHeld := hHeld2
          clear hHeld2 hB
          have hbk := hbn
          clear hbn
          try simp only [Act.put, List.getElem_toArray, List.getElem_cons_succ, List.getElem_cons_zero, List.setIfInBounds_toArray, List.set_cons_zero, List.set_cons_succ]
          refine wpAnyH_ready (rs := [10]) (by kernel_rfl) (by simp) ?_
          obtain ⟨z0, z1⟩ := hbk.cells.c2
          simp only [Nat.zero_add] at z1
          have zl := hbk.lt
          have zf0 := hbk.free 0
          have zf1 := hbk.free 1
          refine allSkip (w' := ((wm2.setCell ⟨b15, 0, none⟩ (.slice pn rc.length qn)).setCell ⟨b15, 1, none⟩ (.slice pm U2.length qm))) rfl (by kernel_rfl) (by go_simp) (belowSet2 hHeld hbkl _ _) ?_ AllReadyH.nil
          have hHeld2 := belowSet2 hHeld hbkl (.slice pn rc.length qn) (.slice pm U2.length qm)
          obtain ⟨hon, hbn⟩ := hon2.set2 hbk (.slice pn rc.length qn) (.slice pm U2.length qm)
          clear hHeld hbk hon2 z0 z1 zl zf0 zf1
          have hHeld := hHeld2
          have hon2 := hon
          have hbk := hbn
          clear hHeld2 hon hbn
          generalize ((wm2.setCell ⟨b15, 0, none⟩ (.slice pn rc.length qn)).setCell ⟨b15, 1, none⟩ (.slice pm U2.length qm)) = wm3 at *
          try simp only [Act.put, List.getElem_toArray, List.getElem_cons_succ, List.getElem_cons_zero, List.setIfInBounds_toArray, List.set_cons_zero, List.set_cons_succ]
          refine wpAnyH_take (i := 11) (v := .int .i64 0) rfl (by kernel_rfl) (by kernel_rfl) (by kernel_rfl) (fun _ _ _ h => h) (Or.inl ⟨by rfl, ?_⟩) hHeld ?_
          · intro w' hSw; go_simp
          try simp only [Act.put, List.getElem_toArray, List.getElem_cons_succ, List.getElem_cons_zero, List.setIfInBounds_toArray, List.set_cons_zero, List.set_cons_succ]
          refine wpAnyH_done (by kernel_rfl) ?_ _
          exact ⟨⟨b15, pn, qn, pm, qm⟩, by kernel_rfl, ⟨hHeld, hbk, hon2⟩⟩
        refine allVal (v := .pointer (some ⟨wq1.drew.heap.size, 0, none⟩)) (w' := wq1.drew.alloc (.cells #[.slice none 0 0, .slice none 0 0] 25)) rfl (by kernel_rfl) (by go_simp) (hHeld.trans ((alloc_below wq1.drew (.cells #[.slice none 0 0, .slice none 0 0] 25)).mono hHeld.size)) ?_ AllReadyH.nil
        have hB := alloc_below wq1.drew (.cells #[.slice none 0 0, .slice none 0 0] 25)
        have hbn := Blk.new wq1.drew [.slice none 0 0, .slice none 0 0] 25 rfl
        have hbkl := hHeld.size
        generalize wq1.drew.alloc (.cells #[.slice none 0 0, .slice none 0 0] 25) = wm4 at *
        obtain ⟨b15, eb⟩ : ∃ b, b = wq1.drew.heap.size := ⟨_, rfl⟩
        rw [← eb] at hbn hbkl ⊢
        clear eb
        have hHeld2 := hHeld.trans (hB.mono hHeld.size)
        clear hHeld
        have hHeld := hHeld2
        clear hHeld2 hB
        have hbk := hbn
        clear hbn
        try simp only [Act.put, List.getElem_toArray, List.getElem_cons_succ, List.getElem_cons_zero, List.setIfInBounds_toArray, List.set_cons_zero, List.set_cons_succ]
        refine wpAnyH_ready (rs := [5]) (by kernel_rfl) (by simp) ?_
        refine allCall (f := 10) (args := #[.agg #[.slice pc rc.length qc, .slice pl U.length ql], .agg #[.slice pg rc.length qg, .slice ph g.length qh]]) rfl (by kernel_rfl) (by kernel_rfl) ?_ AllReadyH.nil
        refine Or_O (e := 0) (co := rc) (l2 := U2) (Hall.out.rel.below hHeld) (Hrg.out.below hHeld) (by omega) Hgo.out rfl (by rw [Hgr.out]; rfl) hHeld.size _ (fun wm5 pn qn pm qm hB hon => ?_)
        refine ⟨_, rfl, hHeld.trans (hB.mono hHeld.size), ?_⟩
        replace hbk := hbk.below hB hbk.lt
        have hHeld2 := hHeld.trans (hB.mono hHeld.size)
        clear hHeld
        have hHeld := hHeld2
        clear hHeld2 hB
        have hon2 := hon
        clear hon
        try simp only [Act.put, List.getElem_toArray, List.getElem_cons_succ, List.getElem_cons_zero, List.setIfInBounds_toArray, List.set_cons_zero, List.set_cons_succ]
        refine wpAnyH_take (i := 6) (v := .tuple #[.agg #[.slice pn rc.length qn, .slice pm U2.length qm], .int .i64 0]) rfl (by kernel_rfl) (by kernel_rfl) (by kernel_rfl) (fun _ _ _ h => h) (Or.inl ⟨by rfl, ?_⟩) hHeld ?_
        · intro w' hSw; go_simp
        try simp only [Act.put, List.getElem_toArray, List.getElem_cons_succ, List.getElem_cons_zero, List.setIfInBounds_toArray, List.set_cons_zero, List.set_cons_succ]
        refine wpAnyH_take (i := 7) (v := .agg #[.slice pn rc.length qn, .slice pm U2.length qm]) rfl (by kernel_rfl) (by kernel_rfl) (by kernel_rfl) (fun _ _ _ h => h) (Or.inl ⟨by rfl, ?_⟩) hHeld ?_
        · intro w' hSw; go_simp
        try simp only [Act.put, List.getElem_toArray, List.getElem_cons_succ, List.getElem_cons_zero, List.setIfInBounds_toArray, List.set_cons_zero, List.set_cons_succ]
        refine wpAnyH_take (i := 8) (v := .int .i64 0) rfl (by kernel_rfl) (by kernel_rfl) (by kernel_rfl) (fun _ _ _ h => h) (Or.inl ⟨by rfl, ?_⟩) hHeld ?_
        · intro w' hSw; go_simp
        try simp only [Act.put, List.getElem_toArray, List.getElem_cons_succ, List.getElem_cons_zero, List.setIfInBounds_toArray, List.set_cons_zero, List.set_cons_succ]
        refine wpAnyH_ready (rs := [10]) (by kernel_rfl) (by simp) ?_
        obtain ⟨z0, z1⟩ := hbk.cells.c2
        simp only [Nat.zero_add] at z1
        have zl := hbk.lt
        have zf0 := hbk.free 0
        have zf1 := hbk.free 1
        refine allSkip (w' := ((wm5.setCell ⟨b15, 0, none⟩ (.slice pn rc.length qn)).setCell ⟨b15, 1, none⟩ (.slice pm U2.length qm))) rfl (by kernel_rfl) (by go_simp) (belowSet2 hHeld hbkl _ _) ?_ AllReadyH.nil
        have hHeld2 := belowSet2 hHeld hbkl (.slice pn rc.length qn) (.slice pm U2.length qm)
        obtain ⟨hon, hbn⟩ := hon2.set2 hbk (.slice pn rc.length qn) (.slice pm U2.length qm)
        clear hHeld hbk hon2 z0 z1 zl zf0 zf1
        have hHeld := hHeld2
        have hon2 := hon
        have hbk := hbn
        clear hHeld2 hon hbn
        generalize ((wm5.setCell ⟨b15, 0, none⟩ (.slice pn rc.length qn)).setCell ⟨b15, 1, none⟩ (.slice pm U2.length qm)) = wm6 at *
        try simp only [Act.put, List.getElem_toArray, List.getElem_cons_succ, List.getElem_cons_zero, List.setIfInBounds_toArray, List.set_cons_zero, List.set_cons_succ]
        refine wpAnyH_take (i := 11) (v := .int .i64 0) rfl (by kernel_rfl) (by kernel_rfl) (by kernel_rfl) (fun _ _ _ h => h) (Or.inl ⟨by rfl, ?_⟩) hHeld ?_
        · intro w' hSw; go_simp
        try simp only [Act.put, List.getElem_toArray, List.getElem_cons_succ, List.getElem_cons_zero, List.setIfInBounds_toArray, List.set_cons_zero, List.set_cons_succ]
        refine wpAnyH_done (by kernel_rfl) ?_ _
        exact ⟨⟨b15, pn, qn, pm, qm⟩, by kernel_rfl, ⟨hHeld, hbk, hon2⟩⟩
      rintro ⟨b15, pn, qn, pm, qm⟩ wz ⟨hB, hbk, hon2⟩
      simp only [List.foldl_cons, List.foldl_nil]
      try simp only [Act.put, List.getElem_toArray, List.getElem_cons_succ, List.getElem_cons_zero, List.setIfInBounds_toArray, List.set_cons_zero, List.set_cons_succ]
      replace HB := Lib.hid (HB.out.trans (hB.mono HB.out.size))
      replace Hr := Lib.hid (Hr.out.below hB)
      replace Hby := Lib.hid (Pd.step Hby.out hB)
      replace Hk := Lib.hid (Hk.out.below hB)
      replace HBk := Lib.hid (HBk.out.trans (hB.mono HBk.out.size))
      replace Hall := Lib.hid (Hall.out.below hB)
      replace Hls := Lib.hid (RLs.kept Hls.out hB)
      replace Hcg := Lib.hid (AtC.below Hcg.out hB)
      replace Hrg := Lib.hid (Hrg.out.below hB)
      have Hn := Lib.hid (hbk)
      have Hown := Lib.hid (hon2)
      clear hB hbk hon2
      obtain ⟨wz19, ewz⟩ : ∃ x, x = wz := ⟨_, rfl⟩
      subst ewz
      obtain ⟨c0, c1⟩ := Hn.out.cells.c2
      simp only [Nat.zero_add] at c1
      obtain ⟨d0, d1⟩ := Hall.out.blk.cells.c2
      simp only [Nat.zero_add] at d1
      have dl := Hall.out.blk.lt
      have df0 := Hall.out.blk.free 0
      have df1 := Hall.out.blk.free 1
      go_wp2_with fail
      go_roundw
      case rel =>
        obtain ⟨k1, k2⟩ := Hown.out.set2 Hall.out.blk (.slice pn rc.length qn) (.slice pm U2.length qm)
        refine ⟨k + 1, S2, by omega, HS2, by go_num, by rw [← Hgs.out]; go_num, belowSet2 HBk.out Hb11.out _ _, pn, qn, pm, qm, ?_⟩
        rw [← HU2.out]
        exact ⟨k2, k1.relH⟩
      case measure => simp [intOf]; omega
    · obtain rfl : k = G.length := by omega
      have llt : ¬ ((G.length : Nat) : Int) < (G.length : Int) := by omega
      obtain rfl : s = l.length := by rw [Hs.out, List.take_length, HG.out, grp_sum]
      have e : relCanon (G.take G.length).flatten = l := by rw [List.take_length, HG.out, grp_union Hm.out]
      rw [e] at Hall
      clear e Hs hk
      obtain ⟨d0, d1⟩ := Hall.out.blk.cells.c2
      simp only [Nat.zero_add] at d1
      obtain ⟨c0, c1⟩ := Hr.out.blk.cells.c2
      simp only [Nat.zero_add] at c1
      go_wp2_with fail
      refine Same16_K Hall.out.rel Hr.out.rel rfl rfl Hrs.out _ (fun wc12 hB => ?_)
      replace HB := Lib.hid (HB.out.trans (hB.mono HB.out.size))
      replace Hr := Lib.hid (Hr.out.below hB)
      replace Hby := Lib.hid (Pd.step Hby.out hB)
      replace Hk := Lib.hid (Hk.out.below hB)
      replace HBk := Lib.hid (HBk.out.trans (hB.mono HBk.out.size))
      replace Hall := Lib.hid (Hall.out.below hB)
      replace Hls := Lib.hid (RLs.kept Hls.out hB)
      clear hB c0 c1 d0 d1
      clear Hall Hk Hls Hby
      obtain ⟨c0, c1⟩ := Hr.out.blk.cells.c2
      simp only [Nat.zero_add] at c1
      by_cases h0 : rc.length = 0
      · have h0i : (rc.length : Int) = 0 := by omega
        have hr := HR.out wc12 HB.out
        clear h0
        go_wp2_with fail
        first | exact hr | exact fin hr rfl
      have h0i : ¬ (rc.length : Int) = 0 := by omega
      have hpos : 0 < rc.length := by omega
      have h0p : (0 : Int) < (rc.length : Int) := by omega
      go_upto_region 28 with fail
      clear c0 c1
      obtain ⟨cA, hcA⟩ : ∃ x, x = rc[0] := ⟨_, rfl⟩
      have Hmem : Hid (cA ∈ rc) := Lib.hid (by rw [hcA]; exact List.getElem_mem _)
      have Hplace : Hid (placeI rc cA = 0) := Lib.hid (by rw [hcA]; exact place_first hpos)
      obtain ⟨ao', cap', e', -, -, -, hcS⟩ := Hr.out.rel.strs.form
      injection e' with e1 e2 e3
      subst e1 e3
      obtain ⟨bc, oc, rfl, hbc1, hbc2, hcc⟩ := hcS 0 hpos
      obtain ⟨cs, -, hcs, ecs⟩ := hcc 0 hpos
      rw [← hcA] at ecs
      obtain rfl : cs = [.string ⟨cA.toArray⟩] := ecs
      have hat : AtC wc12 bc oc [.string ⟨cA.toArray⟩] := ⟨by simpa using hcs, by omega⟩
      obtain ⟨T, hT⟩ : ∃ T, T = relCanon (foldRows rc [] (partLa cA) l) := ⟨_, rfl⟩
      have HT := Lib.hid hT
      clear hcS hcc hcs e2 hbc1 hbc2 hcA hT
      have Hat := Lib.hid (hat)
      clear hat
      refine region_meet (ι := Nat × Nat × Option Addr × Nat × Option Addr × Nat) (fun ⟨bA, b17, pt, qt, pu, qu⟩ => [(142, .agg #[.slice (some ⟨bc, oc, none⟩) rc.length na, .slice qa l.length ma]), (143, .agg #[.int .i64 1, .string ⟨#[]⟩, .string ⟨#[99]⟩]), (144, .pointer (some ⟨b2, 0, none⟩)), (145, .slice (some ⟨bc, oc, none⟩) rc.length na), (146, .pointer (some ⟨bc, oc, none⟩)), (147, .string ⟨cA.toArray⟩), (148, .agg #[.int .i64 4, .string ⟨cA.toArray⟩, .string ⟨#[108]⟩]), (149, .pointer (some ⟨b2, 0, none⟩)), (150, .slice (some ⟨bc, oc, none⟩) rc.length na), (151, .pointer (some ⟨bc, oc, none⟩)), (152, .string ⟨cA.toArray⟩), (153, .agg #[.int .i64 5, .string ⟨cA.toArray⟩, .string ⟨#[103]⟩]), (154, .slice (some ⟨bA, 0, none⟩) 3 3), (155, .tuple #[.agg #[.slice pt (foldCols [] (partLa cA)).length qt, .slice pu T.length qu], .int .i64 0]), (141, .tuple #[.agg #[.slice pt (foldCols [] (partLa cA)).length qt, .slice pu T.length qu], .int .i64 0]), (156, .agg #[.slice pt (foldCols [] (partLa cA)).length qt, .slice pu T.length qu]), (157, .int .i64 0), (17, .pointer (some ⟨b17, 0, none⟩)), (18, .int .i64 0)]) (fun ⟨bA, b17, pt, qt, pu, qu⟩ w' => Below wc12.heap.size wc12 w' ∧ Blk w' b17 [.slice pt (foldCols [] (partLa cA)).length qt, .slice pu T.length qu] 25 ∧ RelOwn wc12.heap.size w' pt qt pu qu (foldCols [] (partLa cA)) T) ?_ ?_
      · refine wp_region_held_drew (S := fun w' => Below wc12.heap.size wc12 w') (by kernel_rfl) (Below.refl _ _).drew (fun hHeld => ?_)
        refine wpAnyH_take (i := 0) (v := .agg #[.slice (some ⟨bc, oc, none⟩) rc.length na, .slice qa l.length ma]) rfl (by kernel_rfl) (by kernel_rfl) (by kernel_rfl) (fun _ _ _ h => h) (Or.inl ⟨by rfl, ?_⟩) hHeld ?_
        · intro w' hSw; have kc := (Hr.out.blk.below hSw Hr.out.blk.lt).cells; have kx := kc.runVar (P := Tryz.prog) (t := 25) (fun _ => by kernel_rfl) (fun _ => by kernel_rfl); obtain ⟨z0, z1⟩ := kc.c2; simp only [Nat.zero_add] at z1; go_simp
        try simp only [Act.put, List.getElem_toArray, List.getElem_cons_succ, List.getElem_cons_zero, List.setIfInBounds_toArray, List.set_cons_zero, List.set_cons_succ]
        refine wpAnyH_take (i := 1) (v := .agg #[.int .i64 1, .string ⟨#[]⟩, .string ⟨#[99]⟩]) rfl (by kernel_rfl) (by kernel_rfl) (by kernel_rfl) (fun _ _ _ h => h) (Or.inl ⟨by rfl, ?_⟩) hHeld ?_
        · intro w' hSw; go_simp
        try simp only [Act.put, List.getElem_toArray, List.getElem_cons_succ, List.getElem_cons_zero, List.setIfInBounds_toArray, List.set_cons_zero, List.set_cons_succ]
        refine wpAnyH_take (i := 2) (v := .pointer (some ⟨b2, 0, none⟩)) rfl (by kernel_rfl) (by kernel_rfl) (by kernel_rfl) (fun _ _ _ h => h) (Or.inl ⟨by rfl, ?_⟩) hHeld ?_
        · intro w' hSw; go_simp
        try simp only [Act.put, List.getElem_toArray, List.getElem_cons_succ, List.getElem_cons_zero, List.setIfInBounds_toArray, List.set_cons_zero, List.set_cons_succ]
        refine wpAnyH_take (i := 3) (v := .slice (some ⟨bc, oc, none⟩) rc.length na) rfl (by kernel_rfl) (by kernel_rfl) (by kernel_rfl) (fun _ _ _ h => h) (Or.inl ⟨by rfl, ?_⟩) hHeld ?_
        · intro w' hSw; have kc := (Hr.out.blk.below hSw Hr.out.blk.lt).cells; obtain ⟨z0, z1⟩ := kc.c2; simp only [Nat.zero_add] at z1; go_simp
        try simp only [Act.put, List.getElem_toArray, List.getElem_cons_succ, List.getElem_cons_zero, List.setIfInBounds_toArray, List.set_cons_zero, List.set_cons_succ]
        refine wpAnyH_take (i := 4) (v := .pointer (some ⟨bc, oc, none⟩)) rfl (by kernel_rfl) (by kernel_rfl) (by kernel_rfl) (fun _ _ _ h => h) (Or.inl ⟨by rfl, ?_⟩) hHeld ?_
        · intro w' hSw; go_simp
        try simp only [Act.put, List.getElem_toArray, List.getElem_cons_succ, List.getElem_cons_zero, List.setIfInBounds_toArray, List.set_cons_zero, List.set_cons_succ]
        refine wpAnyH_take (i := 5) (v := .string ⟨cA.toArray⟩) rfl (by kernel_rfl) (by kernel_rfl) (by kernel_rfl) (fun _ _ _ h => h) (Or.inl ⟨by rfl, ?_⟩) hHeld ?_
        · intro w' hSw; have kx := (Hat.out.below hSw).cells.c1; go_simp
        try simp only [Act.put, List.getElem_toArray, List.getElem_cons_succ, List.getElem_cons_zero, List.setIfInBounds_toArray, List.set_cons_zero, List.set_cons_succ]
        refine wpAnyH_take (i := 6) (v := .agg #[.int .i64 4, .string ⟨cA.toArray⟩, .string ⟨#[108]⟩]) rfl (by kernel_rfl) (by kernel_rfl) (by kernel_rfl) (fun _ _ _ h => h) (Or.inl ⟨by rfl, ?_⟩) hHeld ?_
        · intro w' hSw; go_simp
        try simp only [Act.put, List.getElem_toArray, List.getElem_cons_succ, List.getElem_cons_zero, List.setIfInBounds_toArray, List.set_cons_zero, List.set_cons_succ]
        refine wpAnyH_take (i := 7) (v := .pointer (some ⟨b2, 0, none⟩)) rfl (by kernel_rfl) (by kernel_rfl) (by kernel_rfl) (fun _ _ _ h => h) (Or.inl ⟨by rfl, ?_⟩) hHeld ?_
        · intro w' hSw; go_simp
        try simp only [Act.put, List.getElem_toArray, List.getElem_cons_succ, List.getElem_cons_zero, List.setIfInBounds_toArray, List.set_cons_zero, List.set_cons_succ]
        refine wpAnyH_take (i := 8) (v := .slice (some ⟨bc, oc, none⟩) rc.length na) rfl (by kernel_rfl) (by kernel_rfl) (by kernel_rfl) (fun _ _ _ h => h) (Or.inl ⟨by rfl, ?_⟩) hHeld ?_
        · intro w' hSw; have kc := (Hr.out.blk.below hSw Hr.out.blk.lt).cells; obtain ⟨z0, z1⟩ := kc.c2; simp only [Nat.zero_add] at z1; go_simp
        try simp only [Act.put, List.getElem_toArray, List.getElem_cons_succ, List.getElem_cons_zero, List.setIfInBounds_toArray, List.set_cons_zero, List.set_cons_succ]
        refine wpAnyH_take (i := 9) (v := .pointer (some ⟨bc, oc, none⟩)) rfl (by kernel_rfl) (by kernel_rfl) (by kernel_rfl) (fun _ _ _ h => h) (Or.inl ⟨by rfl, ?_⟩) hHeld ?_
        · intro w' hSw; go_simp
        try simp only [Act.put, List.getElem_toArray, List.getElem_cons_succ, List.getElem_cons_zero, List.setIfInBounds_toArray, List.set_cons_zero, List.set_cons_succ]
        refine wpAnyH_take (i := 10) (v := .string ⟨cA.toArray⟩) rfl (by kernel_rfl) (by kernel_rfl) (by kernel_rfl) (fun _ _ _ h => h) (Or.inl ⟨by rfl, ?_⟩) hHeld ?_
        · intro w' hSw; have kx := (Hat.out.below hSw).cells.c1; go_simp
        try simp only [Act.put, List.getElem_toArray, List.getElem_cons_succ, List.getElem_cons_zero, List.setIfInBounds_toArray, List.set_cons_zero, List.set_cons_succ]
        refine wpAnyH_take (i := 11) (v := .agg #[.int .i64 5, .string ⟨cA.toArray⟩, .string ⟨#[103]⟩]) rfl (by kernel_rfl) (by kernel_rfl) (by kernel_rfl) (fun _ _ _ h => h) (Or.inl ⟨by rfl, ?_⟩) hHeld ?_
        · intro w' hSw; go_simp
        try simp only [Act.put, List.getElem_toArray, List.getElem_cons_succ, List.getElem_cons_zero, List.setIfInBounds_toArray, List.set_cons_zero, List.set_cons_succ]
        refine wpAnyH_ready (rs := [12, 17]) (by kernel_rfl) (by simp) ?_
        refine allVal (v := .slice (some ⟨wc12.drew.heap.size, 0, none⟩) 3 3) (w' := wc12.drew.alloc (.cells #[.int .i64 1, .string ⟨#[]⟩, .string ⟨#[99]⟩, .int .i64 4, .string ⟨cA.toArray⟩, .string ⟨#[108]⟩, .int .i64 5, .string ⟨cA.toArray⟩, .string ⟨#[103]⟩] 41)) rfl (by kernel_rfl) (by go_simp) (hHeld.trans ((alloc_below wc12.drew (.cells #[.int .i64 1, .string ⟨#[]⟩, .string ⟨#[99]⟩, .int .i64 4, .string ⟨cA.toArray⟩, .string ⟨#[108]⟩, .int .i64 5, .string ⟨cA.toArray⟩, .string ⟨#[103]⟩] 41)).mono hHeld.size)) ?_ ?_
        · have hB := alloc_below wc12.drew (.cells #[.int .i64 1, .string ⟨#[]⟩, .string ⟨#[99]⟩, .int .i64 4, .string ⟨cA.toArray⟩, .string ⟨#[108]⟩, .int .i64 5, .string ⟨cA.toArray⟩, .string ⟨#[103]⟩] 41)
          have hagn : Ags 0 (wc12.drew.alloc (.cells #[.int .i64 1, .string ⟨#[]⟩, .string ⟨#[99]⟩, .int .i64 4, .string ⟨cA.toArray⟩, .string ⟨#[108]⟩, .int .i64 5, .string ⟨cA.toArray⟩, .string ⟨#[103]⟩] 41)).heap.size (wc12.drew.alloc (.cells #[.int .i64 1, .string ⟨#[]⟩, .string ⟨#[99]⟩, .int .i64 4, .string ⟨cA.toArray⟩, .string ⟨#[108]⟩, .int .i64 5, .string ⟨cA.toArray⟩, .string ⟨#[103]⟩] 41)) (.slice (some ⟨wc12.drew.heap.size, 0, none⟩) 3 3) (partLa cA) := agsLit wc12.drew (partLa cA) (by show 3 ≤ 1000000; decide) rfl
          generalize wc12.drew.alloc (.cells #[.int .i64 1, .string ⟨#[]⟩, .string ⟨#[99]⟩, .int .i64 4, .string ⟨cA.toArray⟩, .string ⟨#[108]⟩, .int .i64 5, .string ⟨cA.toArray⟩, .string ⟨#[103]⟩] 41) = wm1 at *
          obtain ⟨bA, eb⟩ : ∃ b, b = wc12.drew.heap.size := ⟨_, rfl⟩
          rw [← eb] at hagn ⊢
          clear eb
          have hHeld2 := hHeld.trans (hB.mono hHeld.size)
          clear hHeld
          have hHeld := hHeld2
          clear hHeld2 hB
          have hag := hagn
          clear hagn
          try simp only [Act.put, List.getElem_toArray, List.getElem_cons_succ, List.getElem_cons_zero, List.setIfInBounds_toArray, List.set_cons_zero, List.set_cons_succ]
          refine wpAnyH_ready (rs := [13, 17]) (by kernel_rfl) (by simp) ?_
          refine allCall (f := 12) (args := #[.agg #[.slice (some ⟨bc, oc, none⟩) rc.length na, .slice qa l.length ma], .slice none 0 0, .slice (some ⟨bA, 0, none⟩) 3 3]) rfl (by kernel_rfl) (by kernel_rfl) ?_ ?_
          · refine Fold_O (e := 0) (co := foldCols [] (partLa cA)) (l2 := T) (cols := []) (Hr.out.rel.below hHeld) (Sl.nil _ _ _ _ _) hag (by decide) (by show 3 ≤ 1000000000; decide) (by omega) Hok.out (part_err Hm.out Hmem.out) rfl (by rw [HT.out]; rfl) hHeld.size _ (fun wm2 pt qt pu qu hB hon => ?_)
            refine ⟨_, rfl, hHeld.trans (hB.mono hHeld.size), ?_⟩
            replace hag := Sl.grow hag Ags.loc hB
            have hHeld2 := hHeld.trans (hB.mono hHeld.size)
            clear hHeld
            have hHeld := hHeld2
            clear hHeld2 hB
            have hon2 := hon
            clear hon
            try simp only [Act.put, List.getElem_toArray, List.getElem_cons_succ, List.getElem_cons_zero, List.setIfInBounds_toArray, List.set_cons_zero, List.set_cons_succ]
            refine wpAnyH_take (i := 14) (v := .tuple #[.agg #[.slice pt (foldCols [] (partLa cA)).length qt, .slice pu T.length qu], .int .i64 0]) rfl (by kernel_rfl) (by kernel_rfl) (by kernel_rfl) (fun _ _ _ h => h) (Or.inl ⟨by rfl, ?_⟩) hHeld ?_
            · intro w' hSw; go_simp
            try simp only [Act.put, List.getElem_toArray, List.getElem_cons_succ, List.getElem_cons_zero, List.setIfInBounds_toArray, List.set_cons_zero, List.set_cons_succ]
            refine wpAnyH_take (i := 15) (v := .agg #[.slice pt (foldCols [] (partLa cA)).length qt, .slice pu T.length qu]) rfl (by kernel_rfl) (by kernel_rfl) (by kernel_rfl) (fun _ _ _ h => h) (Or.inl ⟨by rfl, ?_⟩) hHeld ?_
            · intro w' hSw; go_simp
            try simp only [Act.put, List.getElem_toArray, List.getElem_cons_succ, List.getElem_cons_zero, List.setIfInBounds_toArray, List.set_cons_zero, List.set_cons_succ]
            refine wpAnyH_take (i := 16) (v := .int .i64 0) rfl (by kernel_rfl) (by kernel_rfl) (by kernel_rfl) (fun _ _ _ h => h) (Or.inl ⟨by rfl, ?_⟩) hHeld ?_
            · intro w' hSw; go_simp
            try simp only [Act.put, List.getElem_toArray, List.getElem_cons_succ, List.getElem_cons_zero, List.setIfInBounds_toArray, List.set_cons_zero, List.set_cons_succ]
            refine wpAnyH_ready (rs := [17]) (by kernel_rfl) (by simp) ?_
            refine allVal (v := .pointer (some ⟨wm2.heap.size, 0, none⟩)) (w' := wm2.alloc (.cells #[.slice none 0 0, .slice none 0 0] 25)) rfl (by kernel_rfl) (by go_simp) (hHeld.trans ((alloc_below wm2 (.cells #[.slice none 0 0, .slice none 0 0] 25)).mono hHeld.size)) ?_ AllReadyH.nil
            have hB := alloc_below wm2 (.cells #[.slice none 0 0, .slice none 0 0] 25)
            have hbn := Blk.new wm2 [.slice none 0 0, .slice none 0 0] 25 rfl
            have hbkl := hHeld.size
            generalize wm2.alloc (.cells #[.slice none 0 0, .slice none 0 0] 25) = wm3 at *
            obtain ⟨b17, eb⟩ : ∃ b, b = wm2.heap.size := ⟨_, rfl⟩
            rw [← eb] at hbn hbkl ⊢
            clear eb
            replace hag := Sl.grow hag Ags.loc hB
            replace hon2 := hon2.below hB
            have hHeld2 := hHeld.trans (hB.mono hHeld.size)
            clear hHeld
            have hHeld := hHeld2
            clear hHeld2 hB
            have hbk := hbn
            clear hbn
            try simp only [Act.put, List.getElem_toArray, List.getElem_cons_succ, List.getElem_cons_zero, List.setIfInBounds_toArray, List.set_cons_zero, List.set_cons_succ]
            refine wpAnyH_ready (rs := [18]) (by kernel_rfl) (by simp) ?_
            obtain ⟨z0, z1⟩ := hbk.cells.c2
            simp only [Nat.zero_add] at z1
            have zl := hbk.lt
            have zf0 := hbk.free 0
            have zf1 := hbk.free 1
            refine allSkip (w' := ((wm3.setCell ⟨b17, 0, none⟩ (.slice pt (foldCols [] (partLa cA)).length qt)).setCell ⟨b17, 1, none⟩ (.slice pu T.length qu))) rfl (by kernel_rfl) (by go_simp) (belowSet2 hHeld hbkl _ _) ?_ AllReadyH.nil
            have hHeld2 := belowSet2 hHeld hbkl (.slice pt (foldCols [] (partLa cA)).length qt) (.slice pu T.length qu)
            obtain ⟨hon, hbn⟩ := hon2.set2 hbk (.slice pt (foldCols [] (partLa cA)).length qt) (.slice pu T.length qu)
            clear hHeld hbk hon2 z0 z1 zl zf0 zf1
            have hHeld := hHeld2
            have hon2 := hon
            have hbk := hbn
            clear hHeld2 hon hbn
            generalize ((wm3.setCell ⟨b17, 0, none⟩ (.slice pt (foldCols [] (partLa cA)).length qt)).setCell ⟨b17, 1, none⟩ (.slice pu T.length qu)) = wm4 at *
            try simp only [Act.put, List.getElem_toArray, List.getElem_cons_succ, List.getElem_cons_zero, List.setIfInBounds_toArray, List.set_cons_zero, List.set_cons_succ]
            refine wpAnyH_take (i := 19) (v := .int .i64 0) rfl (by kernel_rfl) (by kernel_rfl) (by kernel_rfl) (fun _ _ _ h => h) (Or.inl ⟨by rfl, ?_⟩) hHeld ?_
            · intro w' hSw; go_simp
            try simp only [Act.put, List.getElem_toArray, List.getElem_cons_succ, List.getElem_cons_zero, List.setIfInBounds_toArray, List.set_cons_zero, List.set_cons_succ]
            refine wpAnyH_done (by kernel_rfl) ?_ _
            exact ⟨⟨bA, b17, pt, qt, pu, qu⟩, by kernel_rfl, ⟨hHeld, hbk, hon2⟩⟩
          refine allVal (v := .pointer (some ⟨wm1.heap.size, 0, none⟩)) (w' := wm1.alloc (.cells #[.slice none 0 0, .slice none 0 0] 25)) rfl (by kernel_rfl) (by go_simp) (hHeld.trans ((alloc_below wm1 (.cells #[.slice none 0 0, .slice none 0 0] 25)).mono hHeld.size)) ?_ AllReadyH.nil
          have hB := alloc_below wm1 (.cells #[.slice none 0 0, .slice none 0 0] 25)
          have hbn := Blk.new wm1 [.slice none 0 0, .slice none 0 0] 25 rfl
          have hbkl := hHeld.size
          generalize wm1.alloc (.cells #[.slice none 0 0, .slice none 0 0] 25) = wm5 at *
          obtain ⟨b17, eb⟩ : ∃ b, b = wm1.heap.size := ⟨_, rfl⟩
          rw [← eb] at hbn hbkl ⊢
          clear eb
          replace hag := Sl.grow hag Ags.loc hB
          have hHeld2 := hHeld.trans (hB.mono hHeld.size)
          clear hHeld
          have hHeld := hHeld2
          clear hHeld2 hB
          have hbk := hbn
          clear hbn
          try simp only [Act.put, List.getElem_toArray, List.getElem_cons_succ, List.getElem_cons_zero, List.setIfInBounds_toArray, List.set_cons_zero, List.set_cons_succ]
          refine wpAnyH_ready (rs := [13]) (by kernel_rfl) (by simp) ?_
          refine allCall (f := 12) (args := #[.agg #[.slice (some ⟨bc, oc, none⟩) rc.length na, .slice qa l.length ma], .slice none 0 0, .slice (some ⟨bA, 0, none⟩) 3 3]) rfl (by kernel_rfl) (by kernel_rfl) ?_ AllReadyH.nil
          refine Fold_O (e := 0) (co := foldCols [] (partLa cA)) (l2 := T) (cols := []) (Hr.out.rel.below hHeld) (Sl.nil _ _ _ _ _) hag (by decide) (by show 3 ≤ 1000000000; decide) (by omega) Hok.out (part_err Hm.out Hmem.out) rfl (by rw [HT.out]; rfl) hHeld.size _ (fun wm6 pt qt pu qu hB hon => ?_)
          refine ⟨_, rfl, hHeld.trans (hB.mono hHeld.size), ?_⟩
          replace hag := Sl.grow hag Ags.loc hB
          replace hbk := hbk.below hB hbk.lt
          have hHeld2 := hHeld.trans (hB.mono hHeld.size)
          clear hHeld
          have hHeld := hHeld2
          clear hHeld2 hB
          have hon2 := hon
          clear hon
          try simp only [Act.put, List.getElem_toArray, List.getElem_cons_succ, List.getElem_cons_zero, List.setIfInBounds_toArray, List.set_cons_zero, List.set_cons_succ]
          refine wpAnyH_take (i := 14) (v := .tuple #[.agg #[.slice pt (foldCols [] (partLa cA)).length qt, .slice pu T.length qu], .int .i64 0]) rfl (by kernel_rfl) (by kernel_rfl) (by kernel_rfl) (fun _ _ _ h => h) (Or.inl ⟨by rfl, ?_⟩) hHeld ?_
          · intro w' hSw; go_simp
          try simp only [Act.put, List.getElem_toArray, List.getElem_cons_succ, List.getElem_cons_zero, List.setIfInBounds_toArray, List.set_cons_zero, List.set_cons_succ]
          refine wpAnyH_take (i := 15) (v := .agg #[.slice pt (foldCols [] (partLa cA)).length qt, .slice pu T.length qu]) rfl (by kernel_rfl) (by kernel_rfl) (by kernel_rfl) (fun _ _ _ h => h) (Or.inl ⟨by rfl, ?_⟩) hHeld ?_
          · intro w' hSw; go_simp
          try simp only [Act.put, List.getElem_toArray, List.getElem_cons_succ, List.getElem_cons_zero, List.setIfInBounds_toArray, List.set_cons_zero, List.set_cons_succ]
          refine wpAnyH_take (i := 16) (v := .int .i64 0) rfl (by kernel_rfl) (by kernel_rfl) (by kernel_rfl) (fun _ _ _ h => h) (Or.inl ⟨by rfl, ?_⟩) hHeld ?_
          · intro w' hSw; go_simp
          try simp only [Act.put, List.getElem_toArray, List.getElem_cons_succ, List.getElem_cons_zero, List.setIfInBounds_toArray, List.set_cons_zero, List.set_cons_succ]
          refine wpAnyH_ready (rs := [18]) (by kernel_rfl) (by simp) ?_
          obtain ⟨z0, z1⟩ := hbk.cells.c2
          simp only [Nat.zero_add] at z1
          have zl := hbk.lt
          have zf0 := hbk.free 0
          have zf1 := hbk.free 1
          refine allSkip (w' := ((wm6.setCell ⟨b17, 0, none⟩ (.slice pt (foldCols [] (partLa cA)).length qt)).setCell ⟨b17, 1, none⟩ (.slice pu T.length qu))) rfl (by kernel_rfl) (by go_simp) (belowSet2 hHeld hbkl _ _) ?_ AllReadyH.nil
          have hHeld2 := belowSet2 hHeld hbkl (.slice pt (foldCols [] (partLa cA)).length qt) (.slice pu T.length qu)
          obtain ⟨hon, hbn⟩ := hon2.set2 hbk (.slice pt (foldCols [] (partLa cA)).length qt) (.slice pu T.length qu)
          clear hHeld hbk hon2 z0 z1 zl zf0 zf1
          have hHeld := hHeld2
          have hon2 := hon
          have hbk := hbn
          clear hHeld2 hon hbn
          generalize ((wm6.setCell ⟨b17, 0, none⟩ (.slice pt (foldCols [] (partLa cA)).length qt)).setCell ⟨b17, 1, none⟩ (.slice pu T.length qu)) = wm7 at *
          try simp only [Act.put, List.getElem_toArray, List.getElem_cons_succ, List.getElem_cons_zero, List.setIfInBounds_toArray, List.set_cons_zero, List.set_cons_succ]
          refine wpAnyH_take (i := 19) (v := .int .i64 0) rfl (by kernel_rfl) (by kernel_rfl) (by kernel_rfl) (fun _ _ _ h => h) (Or.inl ⟨by rfl, ?_⟩) hHeld ?_
          · intro w' hSw; go_simp
          try simp only [Act.put, List.getElem_toArray, List.getElem_cons_succ, List.getElem_cons_zero, List.setIfInBounds_toArray, List.set_cons_zero, List.set_cons_succ]
          refine wpAnyH_done (by kernel_rfl) ?_ _
          exact ⟨⟨bA, b17, pt, qt, pu, qu⟩, by kernel_rfl, ⟨hHeld, hbk, hon2⟩⟩
        refine allVal (v := .pointer (some ⟨wc12.drew.heap.size, 0, none⟩)) (w' := wc12.drew.alloc (.cells #[.slice none 0 0, .slice none 0 0] 25)) rfl (by kernel_rfl) (by go_simp) (hHeld.trans ((alloc_below wc12.drew (.cells #[.slice none 0 0, .slice none 0 0] 25)).mono hHeld.size)) ?_ AllReadyH.nil
        have hB := alloc_below wc12.drew (.cells #[.slice none 0 0, .slice none 0 0] 25)
        have hbn := Blk.new wc12.drew [.slice none 0 0, .slice none 0 0] 25 rfl
        have hbkl := hHeld.size
        generalize wc12.drew.alloc (.cells #[.slice none 0 0, .slice none 0 0] 25) = wm8 at *
        obtain ⟨b17, eb⟩ : ∃ b, b = wc12.drew.heap.size := ⟨_, rfl⟩
        rw [← eb] at hbn hbkl ⊢
        clear eb
        have hHeld2 := hHeld.trans (hB.mono hHeld.size)
        clear hHeld
        have hHeld := hHeld2
        clear hHeld2 hB
        have hbk := hbn
        clear hbn
        try simp only [Act.put, List.getElem_toArray, List.getElem_cons_succ, List.getElem_cons_zero, List.setIfInBounds_toArray, List.set_cons_zero, List.set_cons_succ]
        refine wpAnyH_ready (rs := [12]) (by kernel_rfl) (by simp) ?_
        refine allVal (v := .slice (some ⟨wm8.heap.size, 0, none⟩) 3 3) (w' := wm8.alloc (.cells #[.int .i64 1, .string ⟨#[]⟩, .string ⟨#[99]⟩, .int .i64 4, .string ⟨cA.toArray⟩, .string ⟨#[108]⟩, .int .i64 5, .string ⟨cA.toArray⟩, .string ⟨#[103]⟩] 41)) rfl (by kernel_rfl) (by go_simp) (hHeld.trans ((alloc_below wm8 (.cells #[.int .i64 1, .string ⟨#[]⟩, .string ⟨#[99]⟩, .int .i64 4, .string ⟨cA.toArray⟩, .string ⟨#[108]⟩, .int .i64 5, .string ⟨cA.toArray⟩, .string ⟨#[103]⟩] 41)).mono hHeld.size)) ?_ AllReadyH.nil
        have hB := alloc_below wm8 (.cells #[.int .i64 1, .string ⟨#[]⟩, .string ⟨#[99]⟩, .int .i64 4, .string ⟨cA.toArray⟩, .string ⟨#[108]⟩, .int .i64 5, .string ⟨cA.toArray⟩, .string ⟨#[103]⟩] 41)
        have hagn : Ags 0 (wm8.alloc (.cells #[.int .i64 1, .string ⟨#[]⟩, .string ⟨#[99]⟩, .int .i64 4, .string ⟨cA.toArray⟩, .string ⟨#[108]⟩, .int .i64 5, .string ⟨cA.toArray⟩, .string ⟨#[103]⟩] 41)).heap.size (wm8.alloc (.cells #[.int .i64 1, .string ⟨#[]⟩, .string ⟨#[99]⟩, .int .i64 4, .string ⟨cA.toArray⟩, .string ⟨#[108]⟩, .int .i64 5, .string ⟨cA.toArray⟩, .string ⟨#[103]⟩] 41)) (.slice (some ⟨wm8.heap.size, 0, none⟩) 3 3) (partLa cA) := agsLit wm8 (partLa cA) (by show 3 ≤ 1000000; decide) rfl
        generalize wm8.alloc (.cells #[.int .i64 1, .string ⟨#[]⟩, .string ⟨#[99]⟩, .int .i64 4, .string ⟨cA.toArray⟩, .string ⟨#[108]⟩, .int .i64 5, .string ⟨cA.toArray⟩, .string ⟨#[103]⟩] 41) = wm9 at *
        obtain ⟨bA, eb⟩ : ∃ b, b = wm8.heap.size := ⟨_, rfl⟩
        rw [← eb] at hagn ⊢
        clear eb
        replace hbk := hbk.below hB hbk.lt
        have hHeld2 := hHeld.trans (hB.mono hHeld.size)
        clear hHeld
        have hHeld := hHeld2
        clear hHeld2 hB
        have hag := hagn
        clear hagn
        try simp only [Act.put, List.getElem_toArray, List.getElem_cons_succ, List.getElem_cons_zero, List.setIfInBounds_toArray, List.set_cons_zero, List.set_cons_succ]
        refine wpAnyH_ready (rs := [13]) (by kernel_rfl) (by simp) ?_
        refine allCall (f := 12) (args := #[.agg #[.slice (some ⟨bc, oc, none⟩) rc.length na, .slice qa l.length ma], .slice none 0 0, .slice (some ⟨bA, 0, none⟩) 3 3]) rfl (by kernel_rfl) (by kernel_rfl) ?_ AllReadyH.nil
        refine Fold_O (e := 0) (co := foldCols [] (partLa cA)) (l2 := T) (cols := []) (Hr.out.rel.below hHeld) (Sl.nil _ _ _ _ _) hag (by decide) (by show 3 ≤ 1000000000; decide) (by omega) Hok.out (part_err Hm.out Hmem.out) rfl (by rw [HT.out]; rfl) hHeld.size _ (fun wm10 pt qt pu qu hB hon => ?_)
        refine ⟨_, rfl, hHeld.trans (hB.mono hHeld.size), ?_⟩
        replace hbk := hbk.below hB hbk.lt
        replace hag := Sl.grow hag Ags.loc hB
        have hHeld2 := hHeld.trans (hB.mono hHeld.size)
        clear hHeld
        have hHeld := hHeld2
        clear hHeld2 hB
        have hon2 := hon
        clear hon
        try simp only [Act.put, List.getElem_toArray, List.getElem_cons_succ, List.getElem_cons_zero, List.setIfInBounds_toArray, List.set_cons_zero, List.set_cons_succ]
        refine wpAnyH_take (i := 14) (v := .tuple #[.agg #[.slice pt (foldCols [] (partLa cA)).length qt, .slice pu T.length qu], .int .i64 0]) rfl (by kernel_rfl) (by kernel_rfl) (by kernel_rfl) (fun _ _ _ h => h) (Or.inl ⟨by rfl, ?_⟩) hHeld ?_
        · intro w' hSw; go_simp
        try simp only [Act.put, List.getElem_toArray, List.getElem_cons_succ, List.getElem_cons_zero, List.setIfInBounds_toArray, List.set_cons_zero, List.set_cons_succ]
        refine wpAnyH_take (i := 15) (v := .agg #[.slice pt (foldCols [] (partLa cA)).length qt, .slice pu T.length qu]) rfl (by kernel_rfl) (by kernel_rfl) (by kernel_rfl) (fun _ _ _ h => h) (Or.inl ⟨by rfl, ?_⟩) hHeld ?_
        · intro w' hSw; go_simp
        try simp only [Act.put, List.getElem_toArray, List.getElem_cons_succ, List.getElem_cons_zero, List.setIfInBounds_toArray, List.set_cons_zero, List.set_cons_succ]
        refine wpAnyH_take (i := 16) (v := .int .i64 0) rfl (by kernel_rfl) (by kernel_rfl) (by kernel_rfl) (fun _ _ _ h => h) (Or.inl ⟨by rfl, ?_⟩) hHeld ?_
        · intro w' hSw; go_simp
        try simp only [Act.put, List.getElem_toArray, List.getElem_cons_succ, List.getElem_cons_zero, List.setIfInBounds_toArray, List.set_cons_zero, List.set_cons_succ]
        refine wpAnyH_ready (rs := [18]) (by kernel_rfl) (by simp) ?_
        obtain ⟨z0, z1⟩ := hbk.cells.c2
        simp only [Nat.zero_add] at z1
        have zl := hbk.lt
        have zf0 := hbk.free 0
        have zf1 := hbk.free 1
        refine allSkip (w' := ((wm10.setCell ⟨b17, 0, none⟩ (.slice pt (foldCols [] (partLa cA)).length qt)).setCell ⟨b17, 1, none⟩ (.slice pu T.length qu))) rfl (by kernel_rfl) (by go_simp) (belowSet2 hHeld hbkl _ _) ?_ AllReadyH.nil
        have hHeld2 := belowSet2 hHeld hbkl (.slice pt (foldCols [] (partLa cA)).length qt) (.slice pu T.length qu)
        obtain ⟨hon, hbn⟩ := hon2.set2 hbk (.slice pt (foldCols [] (partLa cA)).length qt) (.slice pu T.length qu)
        clear hHeld hbk hon2 z0 z1 zl zf0 zf1
        have hHeld := hHeld2
        have hon2 := hon
        have hbk := hbn
        clear hHeld2 hon hbn
        generalize ((wm10.setCell ⟨b17, 0, none⟩ (.slice pt (foldCols [] (partLa cA)).length qt)).setCell ⟨b17, 1, none⟩ (.slice pu T.length qu)) = wm11 at *
        try simp only [Act.put, List.getElem_toArray, List.getElem_cons_succ, List.getElem_cons_zero, List.setIfInBounds_toArray, List.set_cons_zero, List.set_cons_succ]
        refine wpAnyH_take (i := 19) (v := .int .i64 0) rfl (by kernel_rfl) (by kernel_rfl) (by kernel_rfl) (fun _ _ _ h => h) (Or.inl ⟨by rfl, ?_⟩) hHeld ?_
        · intro w' hSw; go_simp
        try simp only [Act.put, List.getElem_toArray, List.getElem_cons_succ, List.getElem_cons_zero, List.setIfInBounds_toArray, List.set_cons_zero, List.set_cons_succ]
        refine wpAnyH_done (by kernel_rfl) ?_ _
        exact ⟨⟨bA, b17, pt, qt, pu, qu⟩, by kernel_rfl, ⟨hHeld, hbk, hon2⟩⟩
      rintro ⟨bA, b17, pt, qt, pu, qu⟩ wz ⟨hB, hbk, hon2⟩
      simp only [List.foldl_cons, List.foldl_nil]
      try simp only [Act.put, List.getElem_toArray, List.getElem_cons_succ, List.getElem_cons_zero, List.setIfInBounds_toArray, List.set_cons_zero, List.set_cons_succ]
      replace HB := Lib.hid (HB.out.trans (hB.mono HB.out.size))
      replace Hr := Lib.hid (Hr.out.below hB)
      replace HBk := Lib.hid (HBk.out.trans (hB.mono HBk.out.size))
      replace Hat := Lib.hid (AtC.below Hat.out hB)
      have Ht := Lib.hid (hbk)
      have Hot := Lib.hid (hon2)
      clear hB hbk hon2
      obtain ⟨wz13, ewz⟩ : ∃ x, x = wz := ⟨_, rfl⟩
      subst ewz
      obtain ⟨c0, c1⟩ := Ht.out.cells.c2
      simp only [Nat.zero_add] at c1
      obtain ⟨d0, d1⟩ := Hr.out.blk.cells.c2
      simp only [Nat.zero_add] at d1
      by_cases hl0 : l.length = 0
      · have hl0i : (l.length : Int) = 0 := by omega
        have hT0 : T.length = 0 := by
          have : l = [] := List.eq_nil_of_length_eq_zero hl0
          rw [HT.out, this]; rfl
        rw [hT0] at c1
        clear hT0 hl0
        have hr := HR.out wz13 HB.out
        go_wp2_with fail
        first | exact hr | exact fin hr rfl
      have hl0i : ¬ (l.length : Int) = 0 := by omega
      have hl0p : (0 : Int) < (l.length : Int) := by omega
      obtain ⟨vL, hvL⟩ : ∃ x, x = leastV (colL rc cA l) := ⟨_, rfl⟩
      obtain ⟨vG, hvG⟩ : ∃ x, x = greatV (colL rc cA l) := ⟨_, rfl⟩
      obtain rfl : T = [[.num (l.length : Int), vL, vG]] := by rw [HT.out, part_rows (by omega), hvL, hvG]; rfl
      have HvL := Lib.hid hvL
      have HvG := Lib.hid hvG
      replace c1 : wz13.cell? ⟨b17, 1, none⟩ = some (.slice pu 1 qu) := c1
      clear hvL hvG HT
      go_upto_region 33 with fail
      clear c0 c1 d0 d1
      replace Ht : Hid (Blk wz13 b17 [.slice pt (foldCols [] (partLa cA)).length qt, .slice pu 1 qu] 25) := Ht
      have hrh := Hot.out.relH
      obtain ⟨bt, ot, et, hbt, hatt⟩ := Rws.at (l := [[.num (l.length : Int), vL, vG]]) hrh.rws (Nat.le_refl _) Nat.one_pos
      obtain ⟨qr, mr, hclr, hrow⟩ := hatt 0 Nat.one_pos
      subst et
      replace hclr : ∀ w', Below wz13.heap.size wz13 w' → w'.cell? ⟨bt, ot, none⟩ = some (.slice qr 3 mr) := hclr
      replace hrow : Row1 0 wz13.heap.size wz13 (.slice qr 3 mr) [.num (l.length : Int), vL, vG] := hrow
      obtain ⟨br, orr, er, hbr, hcv⟩ := Row1.at (l := [.num (l.length : Int), vL, vG]) hrow (Nat.le_refl _) (by show 0 < 3; decide)
      subst er
      have h0 : CellsAt wz13 br (orr + 0 * 3) [.int .i64 1, .int .i64 (l.length : Int), .string ⟨#[]⟩] := hcv 0 (by show 0 < 3; decide) wz13 (Below.refl _ _)
      have h1 : CellsAt wz13 br (orr + 3) [.int .i64 vL.kind, .int .i64 vL.n, .string ⟨vL.s.toArray⟩] := hcv 1 (by show 1 < 3; decide) wz13 (Below.refl _ _)
      have h2 : CellsAt wz13 br (orr + 6) [.int .i64 vG.kind, .int .i64 vG.n, .string ⟨vG.s.toArray⟩] := hcv 2 (by show 2 < 3; decide) wz13 (Below.refl _ _)
      rw [Nat.zero_mul, Nat.add_zero] at h0
      have ha0 : AtC wz13 br orr [.int .i64 1, .int .i64 (l.length : Int), .string ⟨#[]⟩] := ⟨h0, hbr⟩
      have ha1 : AtC wz13 br (orr + 3) [.int .i64 vL.kind, .int .i64 vL.n, .string ⟨vL.s.toArray⟩] := ⟨h1, hbr⟩
      have ha2 : AtC wz13 br (orr + 6) [.int .i64 vG.kind, .int .i64 vG.n, .string ⟨vG.s.toArray⟩] := ⟨h2, hbr⟩
      have har : AtC wz13 bt ot [.slice (some ⟨br, orr, none⟩) 3 mr] := ⟨fun j u hu => by
        cases j with
        | zero => have e : Value.slice (some ⟨br, orr, none⟩) 3 mr = u := by simpa using hu
                  subst e; exact hclr wz13 (Below.refl _ _)
        | succ j => simp at hu, hbt⟩
      clear hrh hatt hclr hrow hcv h0 h1 h2 hbt hbr
      have Hv0 := Lib.hid (ha0)
      have Hv1 := Lib.hid (ha1)
      have Hv2 := Lib.hid (ha2)
      have Hrt := Lib.hid (har)
      clear ha0 ha1 ha2 har
      clear Hot Hat HBk
      refine wp_region_held_drew (S := fun w' => Below wz13.heap.size wz13 w') (by kernel_rfl) (Below.refl _ _).drew (fun hHeld => ?_)
      refine wpAnyH_take (i := 0) (v := .pointer (some ⟨b17, 1, none⟩)) rfl (by kernel_rfl) (by kernel_rfl) (by kernel_rfl) (fun _ _ _ h => h) (Or.inl ⟨by rfl, ?_⟩) hHeld ?_
      · intro w' hSw; go_simp
      try simp only [Act.put, List.getElem_toArray, List.getElem_cons_succ, List.getElem_cons_zero, List.setIfInBounds_toArray, List.set_cons_zero, List.set_cons_succ]
      refine wpAnyH_take (i := 1) (v := .slice (some ⟨bt, ot, none⟩) 1 qu) rfl (by kernel_rfl) (by kernel_rfl) (by kernel_rfl) (fun _ _ _ h => h) (Or.inl ⟨by rfl, ?_⟩) hHeld ?_
      · intro w' hSw; have kc := (Ht.out.below hSw Ht.out.lt).cells; obtain ⟨z0, z1⟩ := kc.c2; simp only [Nat.zero_add] at z1; go_simp
      try simp only [Act.put, List.getElem_toArray, List.getElem_cons_succ, List.getElem_cons_zero, List.setIfInBounds_toArray, List.set_cons_zero, List.set_cons_succ]
      refine wpAnyH_take (i := 2) (v := .int .i64 1) rfl (by kernel_rfl) (by kernel_rfl) (by kernel_rfl) (fun _ _ _ h => h) (Or.inl ⟨by rfl, ?_⟩) hHeld ?_
      · intro w' hSw; go_simp
      try simp only [Act.put, List.getElem_toArray, List.getElem_cons_succ, List.getElem_cons_zero, List.setIfInBounds_toArray, List.set_cons_zero, List.set_cons_succ]
      refine wpAnyH_take (i := 3) (v := .bool false) rfl (by kernel_rfl) (by kernel_rfl) (by kernel_rfl) (fun _ _ _ h => h) (Or.inl ⟨by rfl, ?_⟩) hHeld ?_
      · intro w' hSw; go_simp
      try simp only [Act.put, List.getElem_toArray, List.getElem_cons_succ, List.getElem_cons_zero, List.setIfInBounds_toArray, List.set_cons_zero, List.set_cons_succ]
      refine wpAnyH_take (i := 4) (v := .bool false) rfl (by kernel_rfl) (by kernel_rfl) (by kernel_rfl) (fun _ _ _ h => h) (Or.inl ⟨by rfl, ?_⟩) hHeld ?_
      · intro w' hSw; go_simp
      try simp only [Act.put, List.getElem_toArray, List.getElem_cons_succ, List.getElem_cons_zero, List.setIfInBounds_toArray, List.set_cons_zero, List.set_cons_succ]
      refine wpAnyH_take (i := 5) (v := .pointer (some ⟨b17, 1, none⟩)) rfl (by kernel_rfl) (by kernel_rfl) (by kernel_rfl) (fun _ _ _ h => h) (Or.inl ⟨by rfl, ?_⟩) hHeld ?_
      · intro w' hSw; go_simp
      try simp only [Act.put, List.getElem_toArray, List.getElem_cons_succ, List.getElem_cons_zero, List.setIfInBounds_toArray, List.set_cons_zero, List.set_cons_succ]
      refine wpAnyH_take (i := 6) (v := .slice (some ⟨bt, ot, none⟩) 1 qu) rfl (by kernel_rfl) (by kernel_rfl) (by kernel_rfl) (fun _ _ _ h => h) (Or.inl ⟨by rfl, ?_⟩) hHeld ?_
      · intro w' hSw; have kc := (Ht.out.below hSw Ht.out.lt).cells; obtain ⟨z0, z1⟩ := kc.c2; simp only [Nat.zero_add] at z1; go_simp
      try simp only [Act.put, List.getElem_toArray, List.getElem_cons_succ, List.getElem_cons_zero, List.setIfInBounds_toArray, List.set_cons_zero, List.set_cons_succ]
      refine wpAnyH_take (i := 7) (v := .pointer (some ⟨bt, ot, none⟩)) rfl (by kernel_rfl) (by kernel_rfl) (by kernel_rfl) (fun _ _ _ h => h) (Or.inl ⟨by rfl, ?_⟩) hHeld ?_
      · intro w' hSw; go_simp
      try simp only [Act.put, List.getElem_toArray, List.getElem_cons_succ, List.getElem_cons_zero, List.setIfInBounds_toArray, List.set_cons_zero, List.set_cons_succ]
      refine wpAnyH_take (i := 8) (v := .slice (some ⟨br, orr, none⟩) 3 mr) rfl (by kernel_rfl) (by kernel_rfl) (by kernel_rfl) (fun _ _ _ h => h) (Or.inl ⟨by rfl, ?_⟩) hHeld ?_
      · intro w' hSw; have kx := (Hrt.out.below hSw).cells.c1; go_simp
      try simp only [Act.put, List.getElem_toArray, List.getElem_cons_succ, List.getElem_cons_zero, List.setIfInBounds_toArray, List.set_cons_zero, List.set_cons_succ]
      refine wpAnyH_take (i := 9) (v := .int .i64 3) rfl (by kernel_rfl) (by kernel_rfl) (by kernel_rfl) (fun _ _ _ h => h) (Or.inl ⟨by rfl, ?_⟩) hHeld ?_
      · intro w' hSw; go_simp
      try simp only [Act.put, List.getElem_toArray, List.getElem_cons_succ, List.getElem_cons_zero, List.setIfInBounds_toArray, List.set_cons_zero, List.set_cons_succ]
      refine wpAnyH_take (i := 10) (v := .bool false) rfl (by kernel_rfl) (by kernel_rfl) (by kernel_rfl) (fun _ _ _ h => h) (Or.inl ⟨by rfl, ?_⟩) hHeld ?_
      · intro w' hSw; go_simp
      try simp only [Act.put, List.getElem_toArray, List.getElem_cons_succ, List.getElem_cons_zero, List.setIfInBounds_toArray, List.set_cons_zero, List.set_cons_succ]
      refine wpAnyH_take (i := 11) (v := .bool false) rfl (by kernel_rfl) (by kernel_rfl) (by kernel_rfl) (fun _ _ _ h => h) (Or.inl ⟨by rfl, ?_⟩) hHeld ?_
      · intro w' hSw; go_simp
      try simp only [Act.put, List.getElem_toArray, List.getElem_cons_succ, List.getElem_cons_zero, List.setIfInBounds_toArray, List.set_cons_zero, List.set_cons_succ]
      refine wpAnyH_take (i := 12) (v := .bool false) rfl (by kernel_rfl) (by kernel_rfl) (by kernel_rfl) (fun _ _ _ h => h) (Or.inl ⟨by rfl, ?_⟩) hHeld ?_
      · intro w' hSw; go_simp
      try simp only [Act.put, List.getElem_toArray, List.getElem_cons_succ, List.getElem_cons_zero, List.setIfInBounds_toArray, List.set_cons_zero, List.set_cons_succ]
      refine wpAnyH_take (i := 13) (v := .pointer (some ⟨b17, 1, none⟩)) rfl (by kernel_rfl) (by kernel_rfl) (by kernel_rfl) (fun _ _ _ h => h) (Or.inl ⟨by rfl, ?_⟩) hHeld ?_
      · intro w' hSw; go_simp
      try simp only [Act.put, List.getElem_toArray, List.getElem_cons_succ, List.getElem_cons_zero, List.setIfInBounds_toArray, List.set_cons_zero, List.set_cons_succ]
      refine wpAnyH_take (i := 14) (v := .slice (some ⟨bt, ot, none⟩) 1 qu) rfl (by kernel_rfl) (by kernel_rfl) (by kernel_rfl) (fun _ _ _ h => h) (Or.inl ⟨by rfl, ?_⟩) hHeld ?_
      · intro w' hSw; have kc := (Ht.out.below hSw Ht.out.lt).cells; obtain ⟨z0, z1⟩ := kc.c2; simp only [Nat.zero_add] at z1; go_simp
      try simp only [Act.put, List.getElem_toArray, List.getElem_cons_succ, List.getElem_cons_zero, List.setIfInBounds_toArray, List.set_cons_zero, List.set_cons_succ]
      refine wpAnyH_take (i := 15) (v := .pointer (some ⟨bt, ot, none⟩)) rfl (by kernel_rfl) (by kernel_rfl) (by kernel_rfl) (fun _ _ _ h => h) (Or.inl ⟨by rfl, ?_⟩) hHeld ?_
      · intro w' hSw; go_simp
      try simp only [Act.put, List.getElem_toArray, List.getElem_cons_succ, List.getElem_cons_zero, List.setIfInBounds_toArray, List.set_cons_zero, List.set_cons_succ]
      refine wpAnyH_take (i := 16) (v := .slice (some ⟨br, orr, none⟩) 3 mr) rfl (by kernel_rfl) (by kernel_rfl) (by kernel_rfl) (fun _ _ _ h => h) (Or.inl ⟨by rfl, ?_⟩) hHeld ?_
      · intro w' hSw; have kx := (Hrt.out.below hSw).cells.c1; go_simp
      try simp only [Act.put, List.getElem_toArray, List.getElem_cons_succ, List.getElem_cons_zero, List.setIfInBounds_toArray, List.set_cons_zero, List.set_cons_succ]
      refine wpAnyH_take (i := 17) (v := .pointer (some ⟨br, orr, none⟩)) rfl (by kernel_rfl) (by kernel_rfl) (by kernel_rfl) (fun _ _ _ h => h) (Or.inl ⟨by rfl, ?_⟩) hHeld ?_
      · intro w' hSw; go_simp
      try simp only [Act.put, List.getElem_toArray, List.getElem_cons_succ, List.getElem_cons_zero, List.setIfInBounds_toArray, List.set_cons_zero, List.set_cons_succ]
      refine wpAnyH_take (i := 18) (v := .agg #[.int .i64 1, .int .i64 ((l.length : Int)), .string ⟨#[]⟩]) rfl (by kernel_rfl) (by kernel_rfl) (by kernel_rfl) (fun _ _ _ h => h) (Or.inl ⟨by rfl, ?_⟩) hHeld ?_
      · intro w' hSw; have kc := (Hv0.out.below hSw).cells; have kx := kc.runVar (P := Tryz.prog) (t := 44) (fun _ => by kernel_rfl) (fun _ => by kernel_rfl); obtain ⟨z0, z1, z2⟩ := kc.c3; go_simp
      try simp only [Act.put, List.getElem_toArray, List.getElem_cons_succ, List.getElem_cons_zero, List.setIfInBounds_toArray, List.set_cons_zero, List.set_cons_succ]
      refine wpAnyH_take (i := 19) (v := .int .i64 ((l.length : Int))) rfl (by kernel_rfl) (by kernel_rfl) (by kernel_rfl) (fun _ _ _ h => h) (Or.inl ⟨by rfl, ?_⟩) hHeld ?_
      · intro w' hSw; go_simp
      try simp only [Act.put, List.getElem_toArray, List.getElem_cons_succ, List.getElem_cons_zero, List.setIfInBounds_toArray, List.set_cons_zero, List.set_cons_succ]
      refine wpAnyH_ready (rs := [20]) (by kernel_rfl) (by simp) ?_
      refine allCall (f := 13) (args := #[.int .i64 ((l.length : Int))]) rfl (by kernel_rfl) (by kernel_rfl) ?_ AllReadyH.nil
      refine number16_any (l.length : Int) wz13.drew _ (fun wq1 hB => ?_)
      refine ⟨_, rfl, hHeld.trans (hB.mono hHeld.size), ?_⟩
      have hHeld2 := hHeld.trans (hB.mono hHeld.size)
      clear hHeld
      have hHeld := hHeld2
      clear hHeld2
      clear hB
      try simp only [Act.put, List.getElem_toArray, List.getElem_cons_succ, List.getElem_cons_zero, List.setIfInBounds_toArray, List.set_cons_zero, List.set_cons_succ]
      refine wpAnyH_take (i := 21) (v := .bool false) rfl (by kernel_rfl) (by kernel_rfl) (by kernel_rfl) (fun _ _ _ h => h) (Or.inl ⟨by rfl, ?_⟩) hHeld ?_
      · intro w' hSw; go_simp
      try simp only [Act.put, List.getElem_toArray, List.getElem_cons_succ, List.getElem_cons_zero, List.setIfInBounds_toArray, List.set_cons_zero, List.set_cons_succ]
      refine wpAnyH_take (i := 22) (v := .bool false) rfl (by kernel_rfl) (by kernel_rfl) (by kernel_rfl) (fun _ _ _ h => h) (Or.inl ⟨by rfl, ?_⟩) hHeld ?_
      · intro w' hSw; go_simp
      try simp only [Act.put, List.getElem_toArray, List.getElem_cons_succ, List.getElem_cons_zero, List.setIfInBounds_toArray, List.set_cons_zero, List.set_cons_succ]
      refine wpAnyH_done (by kernel_rfl) ?_ _
      have hB := hHeld
      clear hHeld
      replace HB := Lib.hid (HB.out.trans (hB.mono HB.out.size))
      replace Hr := Lib.hid (Hr.out.below hB)
      replace Ht := Lib.hid (Ht.out.below hB Ht.out.lt)
      replace Hv0 := Lib.hid (AtC.below Hv0.out hB)
      replace Hv1 := Lib.hid (AtC.below Hv1.out hB)
      replace Hv2 := Lib.hid (AtC.below Hv2.out hB)
      replace Hrt := Lib.hid (AtC.below Hrt.out hB)
      clear hB
      clear Hv0
      obtain ⟨d0, d1⟩ := Hr.out.blk.cells.c2
      simp only [Nat.zero_add] at d1
      obtain ⟨col, hcol⟩ : ∃ x, x = colL rc cA l := ⟨_, rfl⟩
      have hcl0 : 0 < col.length := by rw [hcol, col_len]; omega
      have HvLm : Hid (vL ∈ col) := Lib.hid (by rw [HvL.out, ← hcol]; exact leastV_mem hcl0)
      have HvGm : Hid (vG ∈ col) := Lib.hid (by rw [HvG.out, ← hcol]; exact greatV_mem hcl0)
      have Hle : Hid (∀ x ∈ col, 0 ≤ cmpV x vL) := Lib.hid (fun x hx => by rw [HvL.out, ← hcol]; exact leastV_le hx)
      have Hge : Hid (∀ x ∈ col, cmpV x vG ≤ 0) := Lib.hid (fun x hx => by rw [HvG.out, ← hcol]; exact greatV_ge hx)
      have Hcl : Hid (col.length = l.length) := Lib.hid (by rw [hcol, col_len])
      have Hcat : Hid (∀ k (hk : k < l.length) (h0 : 0 < l[k].length), col[k]? = some l[k][0]) := Lib.hid (fun k hk h0 => by rw [hcol]; exact col_at Hplace.out hk h0)
      clear hcol hcl0 HvL HvG
      obtain ⟨bR, oR, eR, hbR, hatR⟩ := Rws.at (l := l) Hr.out.rel.rws (Nat.le_refl _) (by omega)
      subst eR
      have HatR := Lib.hid hatR
      clear hatR hbR
      go_wp2_with fail
      go_loopw [19, 20, 197] (fun t19 t20 t197 wr => ∃ (k : Nat) (f1 f2 : Bool), k ≤ l.length ∧ Hid (vL ∈ col.take k → f1 = true) ∧ Hid (vG ∈ col.take k → f2 = true) ∧ t197 = .int .i64 k ∧ t19 = .bool f1 ∧ t20 = .bool f2 ∧ Below wq1.heap.size wq1 wr) (fun _ _ t197 _ => l.length - (intOf t197).toNat)
      case atStart => exact ⟨0, false, false, Nat.zero_le _, Lib.hid (fun h => by simp at h), Lib.hid (fun h => by simp at h), rfl, rfl, rfl, Below.refl _ _⟩
      case round =>
        obtain ⟨k, f1, f2, hk, H1, H2, rfl, rfl, rfl, hBk⟩ := hrel
        obtain ⟨wo, ewo⟩ : ∃ x, x = wr := ⟨_, rfl⟩
        subst ewo
        clear d0 d1
        have HBk := Lib.hid hBk
        replace HB := Lib.hid (HB.out.trans (hBk.mono HB.out.size))
        replace Hr := Lib.hid (Hr.out.below hBk)
        replace Ht := Lib.hid (Ht.out.below hBk Ht.out.lt)
        replace Hv1 := Lib.hid (AtC.below Hv1.out hBk)
        replace Hv2 := Lib.hid (AtC.below Hv2.out hBk)
        replace Hrt := Lib.hid (AtC.below Hrt.out hBk)
        clear hBk
        have kk0 : (0 : Int) ≤ (k : Int) := by omega
        obtain ⟨d0, d1⟩ := Hr.out.blk.cells.c2
        simp only [Nat.zero_add] at d1
        by_cases hlt : k < l.length
        · have kkl : (k : Int) < (l.length : Int) := by omega
          obtain ⟨qy, my, hcy, hy⟩ := HatR.out k hlt
          have hy0 : 0 < l[k].length := by rw [may_len Hm.out _ (List.getElem_mem hlt)]; exact hpos
          have hcv := Hcat.out k hlt hy0
          obtain ⟨by', oy, ey, hby2, hcyv⟩ := Row1.at hy (Nat.le_refl _) hy0
          subst ey
          have y0 := hcy wo HBk.out
          have y3 := hcyv 0 hy0 wo HBk.out
          rw [Nat.zero_mul, Nat.add_zero] at y3
          have y0p : (0 : Int) < (l[k].length : Int) := by omega
          obtain ⟨v, hv⟩ : ∃ x, x = l[k][0] := ⟨_, rfl⟩
          rw [← hv] at hcv y3
          have hmem : v ∈ col := List.mem_of_getElem? hcv
          have hc1n := Hle.out v hmem
          have hc2n := Hge.out v hmem
          obtain ⟨c1, hc1⟩ : ∃ x, x = cmpV v vL := ⟨_, rfl⟩
          obtain ⟨c2, hc2⟩ : ∃ x, x = cmpV v vG := ⟨_, rfl⟩
          rw [← hc1] at hc1n
          rw [← hc2] at hc2n
          have Hc1 := Lib.hid hc1
          have Hc2 := Lib.hid hc2
          have Hcv := Lib.hid hcv
          have kx := y3.runVar (P := Tryz.prog) (t := 44) (fun _ => by kernel_rfl) (fun _ => by kernel_rfl)
          obtain ⟨y1, y2, y4⟩ := y3.c3
          obtain ⟨ny, hny⟩ : ∃ x, x = l[k].length := ⟨_, rfl⟩
          rw [← hny] at y0 y0p
          clear hc1 hc2 hcv hmem hv hy hcy hcyv hby2 y3 hny hy0
          go_upto_region 40 with fail
          have hB := alloc_below wo (.cells #[.int .i64 v.kind, .int .i64 v.n, .string ⟨v.s.toArray⟩] 44)
          have hbv := Blk.new wo [.int .i64 v.kind, .int .i64 v.n, .string ⟨v.s.toArray⟩] 44 rfl
          generalize wo.alloc (.cells #[.int .i64 v.kind, .int .i64 v.n, .string ⟨v.s.toArray⟩] 44) = wv at *
          obtain ⟨b22, eb22⟩ : ∃ b, b = wo.heap.size := ⟨_, rfl⟩
          rw [← eb22] at hbv ⊢
          clear eb22 kx y0 y1 y2 y4 d0 d1
          replace HB := Lib.hid (HB.out.trans (hB.mono HB.out.size))
          replace Hr := Lib.hid (Hr.out.below hB)
          replace Ht := Lib.hid (Ht.out.below hB Ht.out.lt)
          replace HBk := Lib.hid (HBk.out.trans (hB.mono HBk.out.size))
          replace Hv1 := Lib.hid (AtC.below Hv1.out hB)
          replace Hv2 := Lib.hid (AtC.below Hv2.out hB)
          replace Hrt := Lib.hid (AtC.below Hrt.out hB)
          have Hv := Lib.hid (hbv)
          clear hB hbv
          refine region_meet (ι := Bool × Value × Value × Value × Value × Value × Value × Value × Value) (fun ⟨g1, x2_40, x3_40, x4_40, x5_40, x6_40, x7_40, x8_40, x9_40⟩ => [(207, .bool f1), (208, .bool f1), (209, x2_40), (210, x3_40), (211, x4_40), (212, x5_40), (213, x6_40), (214, x7_40), (215, x8_40), (216, x9_40), (217, .bool g1), (19, .bool g1)]) (fun ⟨g1, x2_40, x3_40, x4_40, x5_40, x6_40, x7_40, x8_40, x9_40⟩ w' => Below wv.heap.size wv w' ∧ Hid (vL ∈ col.take (k + 1) → g1 = true)) ?_ ?_
          · cases f1 with
            | true =>
              refine wp_region_held_drew (S := fun w' => Below wv.heap.size wv w') (by kernel_rfl) (Below.refl _ _).drew (fun hHeld => ?_)
              refine wpAnyH_take (i := 0) (v := .bool true) rfl (by kernel_rfl) (by kernel_rfl) (by kernel_rfl) (fun _ _ _ h => h) (Or.inl ⟨by rfl, ?_⟩) hHeld ?_
              · intro w' hSw; go_simp
              try simp only [Act.put, List.getElem_toArray, List.getElem_cons_succ, List.getElem_cons_zero, List.setIfInBounds_toArray, List.set_cons_zero, List.set_cons_succ]
              refine wpAnyH_take (i := 1) (v := .bool true) rfl (by kernel_rfl) (by kernel_rfl) (by kernel_rfl) (fun _ _ _ h => h) (Or.inl ⟨by rfl, ?_⟩) hHeld ?_
              · intro w' hSw; go_simp
              try simp only [Act.put, List.getElem_toArray, List.getElem_cons_succ, List.getElem_cons_zero, List.setIfInBounds_toArray, List.set_cons_zero, List.set_cons_succ]
              refine wpAnyH_take (i := 2) (v := undef) rfl (by kernel_rfl) (by kernel_rfl) (by kernel_rfl) (fun _ _ _ h => h) (Or.inr ⟨by kernel_rfl, rfl⟩) hHeld ?_
              try simp only [Act.put, List.getElem_toArray, List.getElem_cons_succ, List.getElem_cons_zero, List.setIfInBounds_toArray, List.set_cons_zero, List.set_cons_succ]
              refine wpAnyH_take (i := 3) (v := undef) rfl (by kernel_rfl) (by kernel_rfl) (by kernel_rfl) (fun _ _ _ h => h) (Or.inr ⟨by kernel_rfl, rfl⟩) hHeld ?_
              try simp only [Act.put, List.getElem_toArray, List.getElem_cons_succ, List.getElem_cons_zero, List.setIfInBounds_toArray, List.set_cons_zero, List.set_cons_succ]
              refine wpAnyH_take (i := 4) (v := undef) rfl (by kernel_rfl) (by kernel_rfl) (by kernel_rfl) (fun _ _ _ h => h) (Or.inr ⟨by kernel_rfl, rfl⟩) hHeld ?_
              try simp only [Act.put, List.getElem_toArray, List.getElem_cons_succ, List.getElem_cons_zero, List.setIfInBounds_toArray, List.set_cons_zero, List.set_cons_succ]
              refine wpAnyH_take (i := 5) (v := undef) rfl (by kernel_rfl) (by kernel_rfl) (by kernel_rfl) (fun _ _ _ h => h) (Or.inr ⟨by kernel_rfl, rfl⟩) hHeld ?_
              try simp only [Act.put, List.getElem_toArray, List.getElem_cons_succ, List.getElem_cons_zero, List.setIfInBounds_toArray, List.set_cons_zero, List.set_cons_succ]
              refine wpAnyH_take (i := 6) (v := undef) rfl (by kernel_rfl) (by kernel_rfl) (by kernel_rfl) (fun _ _ _ h => h) (Or.inr ⟨by kernel_rfl, rfl⟩) hHeld ?_
              try simp only [Act.put, List.getElem_toArray, List.getElem_cons_succ, List.getElem_cons_zero, List.setIfInBounds_toArray, List.set_cons_zero, List.set_cons_succ]
              refine wpAnyH_take (i := 7) (v := undef) rfl (by kernel_rfl) (by kernel_rfl) (by kernel_rfl) (fun _ _ _ h => h) (Or.inr ⟨by kernel_rfl, rfl⟩) hHeld ?_
              try simp only [Act.put, List.getElem_toArray, List.getElem_cons_succ, List.getElem_cons_zero, List.setIfInBounds_toArray, List.set_cons_zero, List.set_cons_succ]
              refine wpAnyH_take (i := 8) (v := undef) rfl (by kernel_rfl) (by kernel_rfl) (by kernel_rfl) (fun _ _ _ h => h) (Or.inr ⟨by kernel_rfl, rfl⟩) hHeld ?_
              try simp only [Act.put, List.getElem_toArray, List.getElem_cons_succ, List.getElem_cons_zero, List.setIfInBounds_toArray, List.set_cons_zero, List.set_cons_succ]
              refine wpAnyH_take (i := 9) (v := undef) rfl (by kernel_rfl) (by kernel_rfl) (by kernel_rfl) (fun _ _ _ h => h) (Or.inr ⟨by kernel_rfl, rfl⟩) hHeld ?_
              try simp only [Act.put, List.getElem_toArray, List.getElem_cons_succ, List.getElem_cons_zero, List.setIfInBounds_toArray, List.set_cons_zero, List.set_cons_succ]
              refine wpAnyH_take (i := 10) (v := .bool true) rfl (by kernel_rfl) (by kernel_rfl) (by kernel_rfl) (fun _ _ _ h => h) (Or.inl ⟨by rfl, ?_⟩) hHeld ?_
              · intro w' hSw; go_simp
              try simp only [Act.put, List.getElem_toArray, List.getElem_cons_succ, List.getElem_cons_zero, List.setIfInBounds_toArray, List.set_cons_zero, List.set_cons_succ]
              refine wpAnyH_take (i := 11) (v := .bool true) rfl (by kernel_rfl) (by kernel_rfl) (by kernel_rfl) (fun _ _ _ h => h) (Or.inl ⟨by rfl, ?_⟩) hHeld ?_
              · intro w' hSw; go_simp
              try simp only [Act.put, List.getElem_toArray, List.getElem_cons_succ, List.getElem_cons_zero, List.setIfInBounds_toArray, List.set_cons_zero, List.set_cons_succ]
              refine wpAnyH_done (by kernel_rfl) ?_ _
              exact ⟨⟨true, undef, undef, undef, undef, undef, undef, undef, undef⟩, by kernel_rfl, hHeld, Lib.hid (fun _ => rfl)⟩
            | false =>
              by_cases e1 : v = vL
              · have hq1 : ∀ w, (binOp .eql 44 v.agg vL.agg).run Tryz.prog w = .ok (.bool true) w := fun w => by rw [e1]; exact run_eql_same w
                have He1 := Lib.hid e1
                clear e1
                refine wp_region_held_drew (S := fun w' => Below wv.heap.size wv w') (by kernel_rfl) (Below.refl _ _).drew (fun hHeld => ?_)
                refine wpAnyH_take (i := 0) (v := .bool false) rfl (by kernel_rfl) (by kernel_rfl) (by kernel_rfl) (fun _ _ _ h => h) (Or.inl ⟨by rfl, ?_⟩) hHeld ?_
                · intro w' hSw; go_simp
                try simp only [Act.put, List.getElem_toArray, List.getElem_cons_succ, List.getElem_cons_zero, List.setIfInBounds_toArray, List.set_cons_zero, List.set_cons_succ]
                refine wpAnyH_take (i := 1) (v := .bool false) rfl (by kernel_rfl) (by kernel_rfl) (by kernel_rfl) (fun _ _ _ h => h) (Or.inl ⟨by rfl, ?_⟩) hHeld ?_
                · intro w' hSw; go_simp
                try simp only [Act.put, List.getElem_toArray, List.getElem_cons_succ, List.getElem_cons_zero, List.setIfInBounds_toArray, List.set_cons_zero, List.set_cons_succ]
                refine wpAnyH_take (i := 2) (v := .agg #[.int .i64 v.kind, .int .i64 v.n, .string ⟨v.s.toArray⟩]) rfl (by kernel_rfl) (by kernel_rfl) (by kernel_rfl) (fun _ _ _ h => h) (Or.inl ⟨by rfl, ?_⟩) hHeld ?_
                · intro w' hSw; have kc := (Hv.out.below hSw Hv.out.lt).cells; have kx := kc.runVar (P := Tryz.prog) (t := 44) (fun _ => by kernel_rfl) (fun _ => by kernel_rfl); obtain ⟨z0, z1, z2⟩ := kc.c3; simp only [Nat.zero_add] at z1 z2; go_simp
                try simp only [Act.put, List.getElem_toArray, List.getElem_cons_succ, List.getElem_cons_zero, List.setIfInBounds_toArray, List.set_cons_zero, List.set_cons_succ]
                refine wpAnyH_take (i := 3) (v := .pointer (some ⟨b17, 1, none⟩)) rfl (by kernel_rfl) (by kernel_rfl) (by kernel_rfl) (fun _ _ _ h => h) (Or.inl ⟨by rfl, ?_⟩) hHeld ?_
                · intro w' hSw; go_simp
                try simp only [Act.put, List.getElem_toArray, List.getElem_cons_succ, List.getElem_cons_zero, List.setIfInBounds_toArray, List.set_cons_zero, List.set_cons_succ]
                refine wpAnyH_take (i := 4) (v := .slice (some ⟨bt, ot, none⟩) 1 qu) rfl (by kernel_rfl) (by kernel_rfl) (by kernel_rfl) (fun _ _ _ h => h) (Or.inl ⟨by rfl, ?_⟩) hHeld ?_
                · intro w' hSw; have kc := (Ht.out.below hSw Ht.out.lt).cells; obtain ⟨z0, z1⟩ := kc.c2; simp only [Nat.zero_add] at z1; go_simp
                try simp only [Act.put, List.getElem_toArray, List.getElem_cons_succ, List.getElem_cons_zero, List.setIfInBounds_toArray, List.set_cons_zero, List.set_cons_succ]
                refine wpAnyH_take (i := 5) (v := .pointer (some ⟨bt, ot, none⟩)) rfl (by kernel_rfl) (by kernel_rfl) (by kernel_rfl) (fun _ _ _ h => h) (Or.inl ⟨by rfl, ?_⟩) hHeld ?_
                · intro w' hSw; go_simp
                try simp only [Act.put, List.getElem_toArray, List.getElem_cons_succ, List.getElem_cons_zero, List.setIfInBounds_toArray, List.set_cons_zero, List.set_cons_succ]
                refine wpAnyH_take (i := 6) (v := .slice (some ⟨br, orr, none⟩) 3 mr) rfl (by kernel_rfl) (by kernel_rfl) (by kernel_rfl) (fun _ _ _ h => h) (Or.inl ⟨by rfl, ?_⟩) hHeld ?_
                · intro w' hSw; have kx := (Hrt.out.below hSw).cells.c1; go_simp
                try simp only [Act.put, List.getElem_toArray, List.getElem_cons_succ, List.getElem_cons_zero, List.setIfInBounds_toArray, List.set_cons_zero, List.set_cons_succ]
                refine wpAnyH_take (i := 7) (v := .pointer (some ⟨br, orr + 3, none⟩)) rfl (by kernel_rfl) (by kernel_rfl) (by kernel_rfl) (fun _ _ _ h => h) (Or.inl ⟨by rfl, ?_⟩) hHeld ?_
                · intro w' hSw; go_simp
                try simp only [Act.put, List.getElem_toArray, List.getElem_cons_succ, List.getElem_cons_zero, List.setIfInBounds_toArray, List.set_cons_zero, List.set_cons_succ]
                refine wpAnyH_take (i := 8) (v := .agg #[.int .i64 vL.kind, .int .i64 vL.n, .string ⟨vL.s.toArray⟩]) rfl (by kernel_rfl) (by kernel_rfl) (by kernel_rfl) (fun _ _ _ h => h) (Or.inl ⟨by rfl, ?_⟩) hHeld ?_
                · intro w' hSw; have kc := (Hv1.out.below hSw).cells; have kx := kc.runVar (P := Tryz.prog) (t := 44) (fun _ => by kernel_rfl) (fun _ => by kernel_rfl); obtain ⟨z0, z1, z2⟩ := kc.c3; go_simp
                try simp only [Act.put, List.getElem_toArray, List.getElem_cons_succ, List.getElem_cons_zero, List.setIfInBounds_toArray, List.set_cons_zero, List.set_cons_succ]
                refine wpAnyH_take (i := 9) (v := .bool true) rfl (by kernel_rfl) (by kernel_rfl) (by kernel_rfl) (fun _ _ _ h => h) (Or.inl ⟨by rfl, ?_⟩) hHeld ?_
                · intro w' hSw; have kx := hq1 w'; go_simp
                try simp only [Act.put, List.getElem_toArray, List.getElem_cons_succ, List.getElem_cons_zero, List.setIfInBounds_toArray, List.set_cons_zero, List.set_cons_succ]
                refine wpAnyH_take (i := 10) (v := .bool true) rfl (by kernel_rfl) (by kernel_rfl) (by kernel_rfl) (fun _ _ _ h => h) (Or.inl ⟨by rfl, ?_⟩) hHeld ?_
                · intro w' hSw; go_simp
                try simp only [Act.put, List.getElem_toArray, List.getElem_cons_succ, List.getElem_cons_zero, List.setIfInBounds_toArray, List.set_cons_zero, List.set_cons_succ]
                refine wpAnyH_take (i := 11) (v := .bool true) rfl (by kernel_rfl) (by kernel_rfl) (by kernel_rfl) (fun _ _ _ h => h) (Or.inl ⟨by rfl, ?_⟩) hHeld ?_
                · intro w' hSw; go_simp
                try simp only [Act.put, List.getElem_toArray, List.getElem_cons_succ, List.getElem_cons_zero, List.setIfInBounds_toArray, List.set_cons_zero, List.set_cons_succ]
                refine wpAnyH_done (by kernel_rfl) ?_ _
                exact ⟨⟨true, .agg #[.int .i64 v.kind, .int .i64 v.n, .string ⟨v.s.toArray⟩], .pointer (some ⟨b17, 1, none⟩), .slice (some ⟨bt, ot, none⟩) 1 qu, .pointer (some ⟨bt, ot, none⟩), .slice (some ⟨br, orr, none⟩) 3 mr, .pointer (some ⟨br, orr + 3, none⟩), .agg #[.int .i64 vL.kind, .int .i64 vL.n, .string ⟨vL.s.toArray⟩], .bool true⟩, by kernel_rfl, hHeld, Lib.hid (fun _ => rfl)⟩
              · have hq1 : ∀ w, (binOp .eql 44 v.agg vL.agg).run Tryz.prog w = .ok (.bool false) w := fun w => by exact run_eql_not e1 w
                have He1 := Lib.hid e1
                clear e1
                refine wp_region_held_drew (S := fun w' => Below wv.heap.size wv w') (by kernel_rfl) (Below.refl _ _).drew (fun hHeld => ?_)
                refine wpAnyH_take (i := 0) (v := .bool false) rfl (by kernel_rfl) (by kernel_rfl) (by kernel_rfl) (fun _ _ _ h => h) (Or.inl ⟨by rfl, ?_⟩) hHeld ?_
                · intro w' hSw; go_simp
                try simp only [Act.put, List.getElem_toArray, List.getElem_cons_succ, List.getElem_cons_zero, List.setIfInBounds_toArray, List.set_cons_zero, List.set_cons_succ]
                refine wpAnyH_take (i := 1) (v := .bool false) rfl (by kernel_rfl) (by kernel_rfl) (by kernel_rfl) (fun _ _ _ h => h) (Or.inl ⟨by rfl, ?_⟩) hHeld ?_
                · intro w' hSw; go_simp
                try simp only [Act.put, List.getElem_toArray, List.getElem_cons_succ, List.getElem_cons_zero, List.setIfInBounds_toArray, List.set_cons_zero, List.set_cons_succ]
                refine wpAnyH_take (i := 2) (v := .agg #[.int .i64 v.kind, .int .i64 v.n, .string ⟨v.s.toArray⟩]) rfl (by kernel_rfl) (by kernel_rfl) (by kernel_rfl) (fun _ _ _ h => h) (Or.inl ⟨by rfl, ?_⟩) hHeld ?_
                · intro w' hSw; have kc := (Hv.out.below hSw Hv.out.lt).cells; have kx := kc.runVar (P := Tryz.prog) (t := 44) (fun _ => by kernel_rfl) (fun _ => by kernel_rfl); obtain ⟨z0, z1, z2⟩ := kc.c3; simp only [Nat.zero_add] at z1 z2; go_simp
                try simp only [Act.put, List.getElem_toArray, List.getElem_cons_succ, List.getElem_cons_zero, List.setIfInBounds_toArray, List.set_cons_zero, List.set_cons_succ]
                refine wpAnyH_take (i := 3) (v := .pointer (some ⟨b17, 1, none⟩)) rfl (by kernel_rfl) (by kernel_rfl) (by kernel_rfl) (fun _ _ _ h => h) (Or.inl ⟨by rfl, ?_⟩) hHeld ?_
                · intro w' hSw; go_simp
                try simp only [Act.put, List.getElem_toArray, List.getElem_cons_succ, List.getElem_cons_zero, List.setIfInBounds_toArray, List.set_cons_zero, List.set_cons_succ]
                refine wpAnyH_take (i := 4) (v := .slice (some ⟨bt, ot, none⟩) 1 qu) rfl (by kernel_rfl) (by kernel_rfl) (by kernel_rfl) (fun _ _ _ h => h) (Or.inl ⟨by rfl, ?_⟩) hHeld ?_
                · intro w' hSw; have kc := (Ht.out.below hSw Ht.out.lt).cells; obtain ⟨z0, z1⟩ := kc.c2; simp only [Nat.zero_add] at z1; go_simp
                try simp only [Act.put, List.getElem_toArray, List.getElem_cons_succ, List.getElem_cons_zero, List.setIfInBounds_toArray, List.set_cons_zero, List.set_cons_succ]
                refine wpAnyH_take (i := 5) (v := .pointer (some ⟨bt, ot, none⟩)) rfl (by kernel_rfl) (by kernel_rfl) (by kernel_rfl) (fun _ _ _ h => h) (Or.inl ⟨by rfl, ?_⟩) hHeld ?_
                · intro w' hSw; go_simp
                try simp only [Act.put, List.getElem_toArray, List.getElem_cons_succ, List.getElem_cons_zero, List.setIfInBounds_toArray, List.set_cons_zero, List.set_cons_succ]
                refine wpAnyH_take (i := 6) (v := .slice (some ⟨br, orr, none⟩) 3 mr) rfl (by kernel_rfl) (by kernel_rfl) (by kernel_rfl) (fun _ _ _ h => h) (Or.inl ⟨by rfl, ?_⟩) hHeld ?_
                · intro w' hSw; have kx := (Hrt.out.below hSw).cells.c1; go_simp
                try simp only [Act.put, List.getElem_toArray, List.getElem_cons_succ, List.getElem_cons_zero, List.setIfInBounds_toArray, List.set_cons_zero, List.set_cons_succ]
                refine wpAnyH_take (i := 7) (v := .pointer (some ⟨br, orr + 3, none⟩)) rfl (by kernel_rfl) (by kernel_rfl) (by kernel_rfl) (fun _ _ _ h => h) (Or.inl ⟨by rfl, ?_⟩) hHeld ?_
                · intro w' hSw; go_simp
                try simp only [Act.put, List.getElem_toArray, List.getElem_cons_succ, List.getElem_cons_zero, List.setIfInBounds_toArray, List.set_cons_zero, List.set_cons_succ]
                refine wpAnyH_take (i := 8) (v := .agg #[.int .i64 vL.kind, .int .i64 vL.n, .string ⟨vL.s.toArray⟩]) rfl (by kernel_rfl) (by kernel_rfl) (by kernel_rfl) (fun _ _ _ h => h) (Or.inl ⟨by rfl, ?_⟩) hHeld ?_
                · intro w' hSw; have kc := (Hv1.out.below hSw).cells; have kx := kc.runVar (P := Tryz.prog) (t := 44) (fun _ => by kernel_rfl) (fun _ => by kernel_rfl); obtain ⟨z0, z1, z2⟩ := kc.c3; go_simp
                try simp only [Act.put, List.getElem_toArray, List.getElem_cons_succ, List.getElem_cons_zero, List.setIfInBounds_toArray, List.set_cons_zero, List.set_cons_succ]
                refine wpAnyH_take (i := 9) (v := .bool false) rfl (by kernel_rfl) (by kernel_rfl) (by kernel_rfl) (fun _ _ _ h => h) (Or.inl ⟨by rfl, ?_⟩) hHeld ?_
                · intro w' hSw; have kx := hq1 w'; go_simp
                try simp only [Act.put, List.getElem_toArray, List.getElem_cons_succ, List.getElem_cons_zero, List.setIfInBounds_toArray, List.set_cons_zero, List.set_cons_succ]
                refine wpAnyH_take (i := 10) (v := .bool false) rfl (by kernel_rfl) (by kernel_rfl) (by kernel_rfl) (fun _ _ _ h => h) (Or.inl ⟨by rfl, ?_⟩) hHeld ?_
                · intro w' hSw; go_simp
                try simp only [Act.put, List.getElem_toArray, List.getElem_cons_succ, List.getElem_cons_zero, List.setIfInBounds_toArray, List.set_cons_zero, List.set_cons_succ]
                refine wpAnyH_take (i := 11) (v := .bool false) rfl (by kernel_rfl) (by kernel_rfl) (by kernel_rfl) (fun _ _ _ h => h) (Or.inl ⟨by rfl, ?_⟩) hHeld ?_
                · intro w' hSw; go_simp
                try simp only [Act.put, List.getElem_toArray, List.getElem_cons_succ, List.getElem_cons_zero, List.setIfInBounds_toArray, List.set_cons_zero, List.set_cons_succ]
                refine wpAnyH_done (by kernel_rfl) ?_ _
                exact ⟨⟨false, .agg #[.int .i64 v.kind, .int .i64 v.n, .string ⟨v.s.toArray⟩], .pointer (some ⟨b17, 1, none⟩), .slice (some ⟨bt, ot, none⟩) 1 qu, .pointer (some ⟨bt, ot, none⟩), .slice (some ⟨br, orr, none⟩) 3 mr, .pointer (some ⟨br, orr + 3, none⟩), .agg #[.int .i64 vL.kind, .int .i64 vL.n, .string ⟨vL.s.toArray⟩], .bool false⟩, by kernel_rfl, hHeld, Lib.hid (take_flag Hcv.out H1.out He1.out)⟩
          rintro ⟨g1, x2_40, x3_40, x4_40, x5_40, x6_40, x7_40, x8_40, x9_40⟩ wz ⟨hB, Hg1⟩
          simp only [List.foldl_cons, List.foldl_nil]
          try simp only [Act.put, List.getElem_toArray, List.getElem_cons_succ, List.getElem_cons_zero, List.setIfInBounds_toArray, List.set_cons_zero, List.set_cons_succ]
          replace HB := Lib.hid (HB.out.trans (hB.mono HB.out.size))
          replace Hr := Lib.hid (Hr.out.below hB)
          replace Ht := Lib.hid (Ht.out.below hB Ht.out.lt)
          replace HBk := Lib.hid (HBk.out.trans (hB.mono HBk.out.size))
          replace Hv := Lib.hid (Hv.out.below hB Hv.out.lt)
          replace Hv1 := Lib.hid (AtC.below Hv1.out hB)
          replace Hv2 := Lib.hid (AtC.below Hv2.out hB)
          replace Hrt := Lib.hid (AtC.below Hrt.out hB)
          clear hB
          obtain ⟨wz14, ewz⟩ : ∃ x, x = wz := ⟨_, rfl⟩
          subst ewz
          go_upto_region 41 with fail
          refine region_meet (ι := Bool × Value × Value × Value × Value × Value × Value × Value × Value) (fun ⟨g2, x2_41, x3_41, x4_41, x5_41, x6_41, x7_41, x8_41, x9_41⟩ => [(218, .bool f2), (219, .bool f2), (220, x2_41), (221, x3_41), (222, x4_41), (223, x5_41), (224, x6_41), (225, x7_41), (226, x8_41), (227, x9_41), (228, .bool g2), (20, .bool g2)]) (fun ⟨g2, x2_41, x3_41, x4_41, x5_41, x6_41, x7_41, x8_41, x9_41⟩ w' => Below wz14.heap.size wz14 w' ∧ Hid (vG ∈ col.take (k + 1) → g2 = true)) ?_ ?_
          · cases f2 with
            | true =>
              refine wp_region_held_drew (S := fun w' => Below wz14.heap.size wz14 w') (by kernel_rfl) (Below.refl _ _).drew (fun hHeld => ?_)
              refine wpAnyH_take (i := 0) (v := .bool true) rfl (by kernel_rfl) (by kernel_rfl) (by kernel_rfl) (fun _ _ _ h => h) (Or.inl ⟨by rfl, ?_⟩) hHeld ?_
              · intro w' hSw; go_simp
              try simp only [Act.put, List.getElem_toArray, List.getElem_cons_succ, List.getElem_cons_zero, List.setIfInBounds_toArray, List.set_cons_zero, List.set_cons_succ]
              refine wpAnyH_take (i := 1) (v := .bool true) rfl (by kernel_rfl) (by kernel_rfl) (by kernel_rfl) (fun _ _ _ h => h) (Or.inl ⟨by rfl, ?_⟩) hHeld ?_
              · intro w' hSw; go_simp
              try simp only [Act.put, List.getElem_toArray, List.getElem_cons_succ, List.getElem_cons_zero, List.setIfInBounds_toArray, List.set_cons_zero, List.set_cons_succ]
              refine wpAnyH_take (i := 2) (v := undef) rfl (by kernel_rfl) (by kernel_rfl) (by kernel_rfl) (fun _ _ _ h => h) (Or.inr ⟨by kernel_rfl, rfl⟩) hHeld ?_
              try simp only [Act.put, List.getElem_toArray, List.getElem_cons_succ, List.getElem_cons_zero, List.setIfInBounds_toArray, List.set_cons_zero, List.set_cons_succ]
              refine wpAnyH_take (i := 3) (v := undef) rfl (by kernel_rfl) (by kernel_rfl) (by kernel_rfl) (fun _ _ _ h => h) (Or.inr ⟨by kernel_rfl, rfl⟩) hHeld ?_
              try simp only [Act.put, List.getElem_toArray, List.getElem_cons_succ, List.getElem_cons_zero, List.setIfInBounds_toArray, List.set_cons_zero, List.set_cons_succ]
              refine wpAnyH_take (i := 4) (v := undef) rfl (by kernel_rfl) (by kernel_rfl) (by kernel_rfl) (fun _ _ _ h => h) (Or.inr ⟨by kernel_rfl, rfl⟩) hHeld ?_
              try simp only [Act.put, List.getElem_toArray, List.getElem_cons_succ, List.getElem_cons_zero, List.setIfInBounds_toArray, List.set_cons_zero, List.set_cons_succ]
              refine wpAnyH_take (i := 5) (v := undef) rfl (by kernel_rfl) (by kernel_rfl) (by kernel_rfl) (fun _ _ _ h => h) (Or.inr ⟨by kernel_rfl, rfl⟩) hHeld ?_
              try simp only [Act.put, List.getElem_toArray, List.getElem_cons_succ, List.getElem_cons_zero, List.setIfInBounds_toArray, List.set_cons_zero, List.set_cons_succ]
              refine wpAnyH_take (i := 6) (v := undef) rfl (by kernel_rfl) (by kernel_rfl) (by kernel_rfl) (fun _ _ _ h => h) (Or.inr ⟨by kernel_rfl, rfl⟩) hHeld ?_
              try simp only [Act.put, List.getElem_toArray, List.getElem_cons_succ, List.getElem_cons_zero, List.setIfInBounds_toArray, List.set_cons_zero, List.set_cons_succ]
              refine wpAnyH_take (i := 7) (v := undef) rfl (by kernel_rfl) (by kernel_rfl) (by kernel_rfl) (fun _ _ _ h => h) (Or.inr ⟨by kernel_rfl, rfl⟩) hHeld ?_
              try simp only [Act.put, List.getElem_toArray, List.getElem_cons_succ, List.getElem_cons_zero, List.setIfInBounds_toArray, List.set_cons_zero, List.set_cons_succ]
              refine wpAnyH_take (i := 8) (v := undef) rfl (by kernel_rfl) (by kernel_rfl) (by kernel_rfl) (fun _ _ _ h => h) (Or.inr ⟨by kernel_rfl, rfl⟩) hHeld ?_
              try simp only [Act.put, List.getElem_toArray, List.getElem_cons_succ, List.getElem_cons_zero, List.setIfInBounds_toArray, List.set_cons_zero, List.set_cons_succ]
              refine wpAnyH_take (i := 9) (v := undef) rfl (by kernel_rfl) (by kernel_rfl) (by kernel_rfl) (fun _ _ _ h => h) (Or.inr ⟨by kernel_rfl, rfl⟩) hHeld ?_
              try simp only [Act.put, List.getElem_toArray, List.getElem_cons_succ, List.getElem_cons_zero, List.setIfInBounds_toArray, List.set_cons_zero, List.set_cons_succ]
              refine wpAnyH_take (i := 10) (v := .bool true) rfl (by kernel_rfl) (by kernel_rfl) (by kernel_rfl) (fun _ _ _ h => h) (Or.inl ⟨by rfl, ?_⟩) hHeld ?_
              · intro w' hSw; go_simp
              try simp only [Act.put, List.getElem_toArray, List.getElem_cons_succ, List.getElem_cons_zero, List.setIfInBounds_toArray, List.set_cons_zero, List.set_cons_succ]
              refine wpAnyH_take (i := 11) (v := .bool true) rfl (by kernel_rfl) (by kernel_rfl) (by kernel_rfl) (fun _ _ _ h => h) (Or.inl ⟨by rfl, ?_⟩) hHeld ?_
              · intro w' hSw; go_simp
              try simp only [Act.put, List.getElem_toArray, List.getElem_cons_succ, List.getElem_cons_zero, List.setIfInBounds_toArray, List.set_cons_zero, List.set_cons_succ]
              refine wpAnyH_done (by kernel_rfl) ?_ _
              exact ⟨⟨true, undef, undef, undef, undef, undef, undef, undef, undef⟩, by kernel_rfl, hHeld, Lib.hid (fun _ => rfl)⟩
            | false =>
              by_cases e2 : v = vG
              · have hq2 : ∀ w, (binOp .eql 44 v.agg vG.agg).run Tryz.prog w = .ok (.bool true) w := fun w => by rw [e2]; exact run_eql_same w
                have He2 := Lib.hid e2
                clear e2
                refine wp_region_held_drew (S := fun w' => Below wz14.heap.size wz14 w') (by kernel_rfl) (Below.refl _ _).drew (fun hHeld => ?_)
                refine wpAnyH_take (i := 0) (v := .bool false) rfl (by kernel_rfl) (by kernel_rfl) (by kernel_rfl) (fun _ _ _ h => h) (Or.inl ⟨by rfl, ?_⟩) hHeld ?_
                · intro w' hSw; go_simp
                try simp only [Act.put, List.getElem_toArray, List.getElem_cons_succ, List.getElem_cons_zero, List.setIfInBounds_toArray, List.set_cons_zero, List.set_cons_succ]
                refine wpAnyH_take (i := 1) (v := .bool false) rfl (by kernel_rfl) (by kernel_rfl) (by kernel_rfl) (fun _ _ _ h => h) (Or.inl ⟨by rfl, ?_⟩) hHeld ?_
                · intro w' hSw; go_simp
                try simp only [Act.put, List.getElem_toArray, List.getElem_cons_succ, List.getElem_cons_zero, List.setIfInBounds_toArray, List.set_cons_zero, List.set_cons_succ]
                refine wpAnyH_take (i := 2) (v := .agg #[.int .i64 v.kind, .int .i64 v.n, .string ⟨v.s.toArray⟩]) rfl (by kernel_rfl) (by kernel_rfl) (by kernel_rfl) (fun _ _ _ h => h) (Or.inl ⟨by rfl, ?_⟩) hHeld ?_
                · intro w' hSw; have kc := (Hv.out.below hSw Hv.out.lt).cells; have kx := kc.runVar (P := Tryz.prog) (t := 44) (fun _ => by kernel_rfl) (fun _ => by kernel_rfl); obtain ⟨z0, z1, z2⟩ := kc.c3; simp only [Nat.zero_add] at z1 z2; go_simp
                try simp only [Act.put, List.getElem_toArray, List.getElem_cons_succ, List.getElem_cons_zero, List.setIfInBounds_toArray, List.set_cons_zero, List.set_cons_succ]
                refine wpAnyH_take (i := 3) (v := .pointer (some ⟨b17, 1, none⟩)) rfl (by kernel_rfl) (by kernel_rfl) (by kernel_rfl) (fun _ _ _ h => h) (Or.inl ⟨by rfl, ?_⟩) hHeld ?_
                · intro w' hSw; go_simp
                try simp only [Act.put, List.getElem_toArray, List.getElem_cons_succ, List.getElem_cons_zero, List.setIfInBounds_toArray, List.set_cons_zero, List.set_cons_succ]
                refine wpAnyH_take (i := 4) (v := .slice (some ⟨bt, ot, none⟩) 1 qu) rfl (by kernel_rfl) (by kernel_rfl) (by kernel_rfl) (fun _ _ _ h => h) (Or.inl ⟨by rfl, ?_⟩) hHeld ?_
                · intro w' hSw; have kc := (Ht.out.below hSw Ht.out.lt).cells; obtain ⟨z0, z1⟩ := kc.c2; simp only [Nat.zero_add] at z1; go_simp
                try simp only [Act.put, List.getElem_toArray, List.getElem_cons_succ, List.getElem_cons_zero, List.setIfInBounds_toArray, List.set_cons_zero, List.set_cons_succ]
                refine wpAnyH_take (i := 5) (v := .pointer (some ⟨bt, ot, none⟩)) rfl (by kernel_rfl) (by kernel_rfl) (by kernel_rfl) (fun _ _ _ h => h) (Or.inl ⟨by rfl, ?_⟩) hHeld ?_
                · intro w' hSw; go_simp
                try simp only [Act.put, List.getElem_toArray, List.getElem_cons_succ, List.getElem_cons_zero, List.setIfInBounds_toArray, List.set_cons_zero, List.set_cons_succ]
                refine wpAnyH_take (i := 6) (v := .slice (some ⟨br, orr, none⟩) 3 mr) rfl (by kernel_rfl) (by kernel_rfl) (by kernel_rfl) (fun _ _ _ h => h) (Or.inl ⟨by rfl, ?_⟩) hHeld ?_
                · intro w' hSw; have kx := (Hrt.out.below hSw).cells.c1; go_simp
                try simp only [Act.put, List.getElem_toArray, List.getElem_cons_succ, List.getElem_cons_zero, List.setIfInBounds_toArray, List.set_cons_zero, List.set_cons_succ]
                refine wpAnyH_take (i := 7) (v := .pointer (some ⟨br, orr + 6, none⟩)) rfl (by kernel_rfl) (by kernel_rfl) (by kernel_rfl) (fun _ _ _ h => h) (Or.inl ⟨by rfl, ?_⟩) hHeld ?_
                · intro w' hSw; go_simp
                try simp only [Act.put, List.getElem_toArray, List.getElem_cons_succ, List.getElem_cons_zero, List.setIfInBounds_toArray, List.set_cons_zero, List.set_cons_succ]
                refine wpAnyH_take (i := 8) (v := .agg #[.int .i64 vG.kind, .int .i64 vG.n, .string ⟨vG.s.toArray⟩]) rfl (by kernel_rfl) (by kernel_rfl) (by kernel_rfl) (fun _ _ _ h => h) (Or.inl ⟨by rfl, ?_⟩) hHeld ?_
                · intro w' hSw; have kc := (Hv2.out.below hSw).cells; have kx := kc.runVar (P := Tryz.prog) (t := 44) (fun _ => by kernel_rfl) (fun _ => by kernel_rfl); obtain ⟨z0, z1, z2⟩ := kc.c3; go_simp
                try simp only [Act.put, List.getElem_toArray, List.getElem_cons_succ, List.getElem_cons_zero, List.setIfInBounds_toArray, List.set_cons_zero, List.set_cons_succ]
                refine wpAnyH_take (i := 9) (v := .bool true) rfl (by kernel_rfl) (by kernel_rfl) (by kernel_rfl) (fun _ _ _ h => h) (Or.inl ⟨by rfl, ?_⟩) hHeld ?_
                · intro w' hSw; have kx := hq2 w'; go_simp
                try simp only [Act.put, List.getElem_toArray, List.getElem_cons_succ, List.getElem_cons_zero, List.setIfInBounds_toArray, List.set_cons_zero, List.set_cons_succ]
                refine wpAnyH_take (i := 10) (v := .bool true) rfl (by kernel_rfl) (by kernel_rfl) (by kernel_rfl) (fun _ _ _ h => h) (Or.inl ⟨by rfl, ?_⟩) hHeld ?_
                · intro w' hSw; go_simp
                try simp only [Act.put, List.getElem_toArray, List.getElem_cons_succ, List.getElem_cons_zero, List.setIfInBounds_toArray, List.set_cons_zero, List.set_cons_succ]
                refine wpAnyH_take (i := 11) (v := .bool true) rfl (by kernel_rfl) (by kernel_rfl) (by kernel_rfl) (fun _ _ _ h => h) (Or.inl ⟨by rfl, ?_⟩) hHeld ?_
                · intro w' hSw; go_simp
                try simp only [Act.put, List.getElem_toArray, List.getElem_cons_succ, List.getElem_cons_zero, List.setIfInBounds_toArray, List.set_cons_zero, List.set_cons_succ]
                refine wpAnyH_done (by kernel_rfl) ?_ _
                exact ⟨⟨true, .agg #[.int .i64 v.kind, .int .i64 v.n, .string ⟨v.s.toArray⟩], .pointer (some ⟨b17, 1, none⟩), .slice (some ⟨bt, ot, none⟩) 1 qu, .pointer (some ⟨bt, ot, none⟩), .slice (some ⟨br, orr, none⟩) 3 mr, .pointer (some ⟨br, orr + 6, none⟩), .agg #[.int .i64 vG.kind, .int .i64 vG.n, .string ⟨vG.s.toArray⟩], .bool true⟩, by kernel_rfl, hHeld, Lib.hid (fun _ => rfl)⟩
              · have hq2 : ∀ w, (binOp .eql 44 v.agg vG.agg).run Tryz.prog w = .ok (.bool false) w := fun w => by exact run_eql_not e2 w
                have He2 := Lib.hid e2
                clear e2
                refine wp_region_held_drew (S := fun w' => Below wz14.heap.size wz14 w') (by kernel_rfl) (Below.refl _ _).drew (fun hHeld => ?_)
                refine wpAnyH_take (i := 0) (v := .bool false) rfl (by kernel_rfl) (by kernel_rfl) (by kernel_rfl) (fun _ _ _ h => h) (Or.inl ⟨by rfl, ?_⟩) hHeld ?_
                · intro w' hSw; go_simp
                try simp only [Act.put, List.getElem_toArray, List.getElem_cons_succ, List.getElem_cons_zero, List.setIfInBounds_toArray, List.set_cons_zero, List.set_cons_succ]
                refine wpAnyH_take (i := 1) (v := .bool false) rfl (by kernel_rfl) (by kernel_rfl) (by kernel_rfl) (fun _ _ _ h => h) (Or.inl ⟨by rfl, ?_⟩) hHeld ?_
                · intro w' hSw; go_simp
                try simp only [Act.put, List.getElem_toArray, List.getElem_cons_succ, List.getElem_cons_zero, List.setIfInBounds_toArray, List.set_cons_zero, List.set_cons_succ]
                refine wpAnyH_take (i := 2) (v := .agg #[.int .i64 v.kind, .int .i64 v.n, .string ⟨v.s.toArray⟩]) rfl (by kernel_rfl) (by kernel_rfl) (by kernel_rfl) (fun _ _ _ h => h) (Or.inl ⟨by rfl, ?_⟩) hHeld ?_
                · intro w' hSw; have kc := (Hv.out.below hSw Hv.out.lt).cells; have kx := kc.runVar (P := Tryz.prog) (t := 44) (fun _ => by kernel_rfl) (fun _ => by kernel_rfl); obtain ⟨z0, z1, z2⟩ := kc.c3; simp only [Nat.zero_add] at z1 z2; go_simp
                try simp only [Act.put, List.getElem_toArray, List.getElem_cons_succ, List.getElem_cons_zero, List.setIfInBounds_toArray, List.set_cons_zero, List.set_cons_succ]
                refine wpAnyH_take (i := 3) (v := .pointer (some ⟨b17, 1, none⟩)) rfl (by kernel_rfl) (by kernel_rfl) (by kernel_rfl) (fun _ _ _ h => h) (Or.inl ⟨by rfl, ?_⟩) hHeld ?_
                · intro w' hSw; go_simp
                try simp only [Act.put, List.getElem_toArray, List.getElem_cons_succ, List.getElem_cons_zero, List.setIfInBounds_toArray, List.set_cons_zero, List.set_cons_succ]
                refine wpAnyH_take (i := 4) (v := .slice (some ⟨bt, ot, none⟩) 1 qu) rfl (by kernel_rfl) (by kernel_rfl) (by kernel_rfl) (fun _ _ _ h => h) (Or.inl ⟨by rfl, ?_⟩) hHeld ?_
                · intro w' hSw; have kc := (Ht.out.below hSw Ht.out.lt).cells; obtain ⟨z0, z1⟩ := kc.c2; simp only [Nat.zero_add] at z1; go_simp
                try simp only [Act.put, List.getElem_toArray, List.getElem_cons_succ, List.getElem_cons_zero, List.setIfInBounds_toArray, List.set_cons_zero, List.set_cons_succ]
                refine wpAnyH_take (i := 5) (v := .pointer (some ⟨bt, ot, none⟩)) rfl (by kernel_rfl) (by kernel_rfl) (by kernel_rfl) (fun _ _ _ h => h) (Or.inl ⟨by rfl, ?_⟩) hHeld ?_
                · intro w' hSw; go_simp
                try simp only [Act.put, List.getElem_toArray, List.getElem_cons_succ, List.getElem_cons_zero, List.setIfInBounds_toArray, List.set_cons_zero, List.set_cons_succ]
                refine wpAnyH_take (i := 6) (v := .slice (some ⟨br, orr, none⟩) 3 mr) rfl (by kernel_rfl) (by kernel_rfl) (by kernel_rfl) (fun _ _ _ h => h) (Or.inl ⟨by rfl, ?_⟩) hHeld ?_
                · intro w' hSw; have kx := (Hrt.out.below hSw).cells.c1; go_simp
                try simp only [Act.put, List.getElem_toArray, List.getElem_cons_succ, List.getElem_cons_zero, List.setIfInBounds_toArray, List.set_cons_zero, List.set_cons_succ]
                refine wpAnyH_take (i := 7) (v := .pointer (some ⟨br, orr + 6, none⟩)) rfl (by kernel_rfl) (by kernel_rfl) (by kernel_rfl) (fun _ _ _ h => h) (Or.inl ⟨by rfl, ?_⟩) hHeld ?_
                · intro w' hSw; go_simp
                try simp only [Act.put, List.getElem_toArray, List.getElem_cons_succ, List.getElem_cons_zero, List.setIfInBounds_toArray, List.set_cons_zero, List.set_cons_succ]
                refine wpAnyH_take (i := 8) (v := .agg #[.int .i64 vG.kind, .int .i64 vG.n, .string ⟨vG.s.toArray⟩]) rfl (by kernel_rfl) (by kernel_rfl) (by kernel_rfl) (fun _ _ _ h => h) (Or.inl ⟨by rfl, ?_⟩) hHeld ?_
                · intro w' hSw; have kc := (Hv2.out.below hSw).cells; have kx := kc.runVar (P := Tryz.prog) (t := 44) (fun _ => by kernel_rfl) (fun _ => by kernel_rfl); obtain ⟨z0, z1, z2⟩ := kc.c3; go_simp
                try simp only [Act.put, List.getElem_toArray, List.getElem_cons_succ, List.getElem_cons_zero, List.setIfInBounds_toArray, List.set_cons_zero, List.set_cons_succ]
                refine wpAnyH_take (i := 9) (v := .bool false) rfl (by kernel_rfl) (by kernel_rfl) (by kernel_rfl) (fun _ _ _ h => h) (Or.inl ⟨by rfl, ?_⟩) hHeld ?_
                · intro w' hSw; have kx := hq2 w'; go_simp
                try simp only [Act.put, List.getElem_toArray, List.getElem_cons_succ, List.getElem_cons_zero, List.setIfInBounds_toArray, List.set_cons_zero, List.set_cons_succ]
                refine wpAnyH_take (i := 10) (v := .bool false) rfl (by kernel_rfl) (by kernel_rfl) (by kernel_rfl) (fun _ _ _ h => h) (Or.inl ⟨by rfl, ?_⟩) hHeld ?_
                · intro w' hSw; go_simp
                try simp only [Act.put, List.getElem_toArray, List.getElem_cons_succ, List.getElem_cons_zero, List.setIfInBounds_toArray, List.set_cons_zero, List.set_cons_succ]
                refine wpAnyH_take (i := 11) (v := .bool false) rfl (by kernel_rfl) (by kernel_rfl) (by kernel_rfl) (fun _ _ _ h => h) (Or.inl ⟨by rfl, ?_⟩) hHeld ?_
                · intro w' hSw; go_simp
                try simp only [Act.put, List.getElem_toArray, List.getElem_cons_succ, List.getElem_cons_zero, List.setIfInBounds_toArray, List.set_cons_zero, List.set_cons_succ]
                refine wpAnyH_done (by kernel_rfl) ?_ _
                exact ⟨⟨false, .agg #[.int .i64 v.kind, .int .i64 v.n, .string ⟨v.s.toArray⟩], .pointer (some ⟨b17, 1, none⟩), .slice (some ⟨bt, ot, none⟩) 1 qu, .pointer (some ⟨bt, ot, none⟩), .slice (some ⟨br, orr, none⟩) 3 mr, .pointer (some ⟨br, orr + 6, none⟩), .agg #[.int .i64 vG.kind, .int .i64 vG.n, .string ⟨vG.s.toArray⟩], .bool false⟩, by kernel_rfl, hHeld, Lib.hid (take_flag Hcv.out H2.out He2.out)⟩
          rintro ⟨g2, x2_41, x3_41, x4_41, x5_41, x6_41, x7_41, x8_41, x9_41⟩ wz ⟨hB, Hg2⟩
          simp only [List.foldl_cons, List.foldl_nil]
          try simp only [Act.put, List.getElem_toArray, List.getElem_cons_succ, List.getElem_cons_zero, List.setIfInBounds_toArray, List.set_cons_zero, List.set_cons_succ]
          replace HB := Lib.hid (HB.out.trans (hB.mono HB.out.size))
          replace Hr := Lib.hid (Hr.out.below hB)
          replace Ht := Lib.hid (Ht.out.below hB Ht.out.lt)
          replace HBk := Lib.hid (HBk.out.trans (hB.mono HBk.out.size))
          replace Hv := Lib.hid (Hv.out.below hB Hv.out.lt)
          replace Hv1 := Lib.hid (AtC.below Hv1.out hB)
          replace Hv2 := Lib.hid (AtC.below Hv2.out hB)
          replace Hrt := Lib.hid (AtC.below Hrt.out hB)
          clear hB
          obtain ⟨wz15, ewz⟩ : ∃ x, x = wz := ⟨_, rfl⟩
          subst ewz
          go_upto_region 42 with fail
          refine wp_region_held_drew (S := fun w' => Below wz15.heap.size wz15 w') (by kernel_rfl) (Below.refl _ _).drew (fun hHeld => ?_)
          refine wpAnyH_take (i := 0) (v := .agg #[.int .i64 v.kind, .int .i64 v.n, .string ⟨v.s.toArray⟩]) rfl (by kernel_rfl) (by kernel_rfl) (by kernel_rfl) (fun _ _ _ h => h) (Or.inl ⟨by rfl, ?_⟩) hHeld ?_
          · intro w' hSw; have kc := (Hv.out.below hSw Hv.out.lt).cells; have kx := kc.runVar (P := Tryz.prog) (t := 44) (fun _ => by kernel_rfl) (fun _ => by kernel_rfl); obtain ⟨z0, z1, z2⟩ := kc.c3; simp only [Nat.zero_add] at z1 z2; go_simp
          try simp only [Act.put, List.getElem_toArray, List.getElem_cons_succ, List.getElem_cons_zero, List.setIfInBounds_toArray, List.set_cons_zero, List.set_cons_succ]
          refine wpAnyH_take (i := 1) (v := .pointer (some ⟨b17, 1, none⟩)) rfl (by kernel_rfl) (by kernel_rfl) (by kernel_rfl) (fun _ _ _ h => h) (Or.inl ⟨by rfl, ?_⟩) hHeld ?_
          · intro w' hSw; go_simp
          try simp only [Act.put, List.getElem_toArray, List.getElem_cons_succ, List.getElem_cons_zero, List.setIfInBounds_toArray, List.set_cons_zero, List.set_cons_succ]
          refine wpAnyH_take (i := 2) (v := .slice (some ⟨bt, ot, none⟩) 1 qu) rfl (by kernel_rfl) (by kernel_rfl) (by kernel_rfl) (fun _ _ _ h => h) (Or.inl ⟨by rfl, ?_⟩) hHeld ?_
          · intro w' hSw; have kc := (Ht.out.below hSw Ht.out.lt).cells; obtain ⟨z0, z1⟩ := kc.c2; simp only [Nat.zero_add] at z1; go_simp
          try simp only [Act.put, List.getElem_toArray, List.getElem_cons_succ, List.getElem_cons_zero, List.setIfInBounds_toArray, List.set_cons_zero, List.set_cons_succ]
          refine wpAnyH_take (i := 3) (v := .pointer (some ⟨bt, ot, none⟩)) rfl (by kernel_rfl) (by kernel_rfl) (by kernel_rfl) (fun _ _ _ h => h) (Or.inl ⟨by rfl, ?_⟩) hHeld ?_
          · intro w' hSw; go_simp
          try simp only [Act.put, List.getElem_toArray, List.getElem_cons_succ, List.getElem_cons_zero, List.setIfInBounds_toArray, List.set_cons_zero, List.set_cons_succ]
          refine wpAnyH_take (i := 4) (v := .slice (some ⟨br, orr, none⟩) 3 mr) rfl (by kernel_rfl) (by kernel_rfl) (by kernel_rfl) (fun _ _ _ h => h) (Or.inl ⟨by rfl, ?_⟩) hHeld ?_
          · intro w' hSw; have kx := (Hrt.out.below hSw).cells.c1; go_simp
          try simp only [Act.put, List.getElem_toArray, List.getElem_cons_succ, List.getElem_cons_zero, List.setIfInBounds_toArray, List.set_cons_zero, List.set_cons_succ]
          refine wpAnyH_take (i := 5) (v := .pointer (some ⟨br, orr + 3, none⟩)) rfl (by kernel_rfl) (by kernel_rfl) (by kernel_rfl) (fun _ _ _ h => h) (Or.inl ⟨by rfl, ?_⟩) hHeld ?_
          · intro w' hSw; go_simp
          try simp only [Act.put, List.getElem_toArray, List.getElem_cons_succ, List.getElem_cons_zero, List.setIfInBounds_toArray, List.set_cons_zero, List.set_cons_succ]
          refine wpAnyH_take (i := 6) (v := .agg #[.int .i64 vL.kind, .int .i64 vL.n, .string ⟨vL.s.toArray⟩]) rfl (by kernel_rfl) (by kernel_rfl) (by kernel_rfl) (fun _ _ _ h => h) (Or.inl ⟨by rfl, ?_⟩) hHeld ?_
          · intro w' hSw; have kc := (Hv1.out.below hSw).cells; have kx := kc.runVar (P := Tryz.prog) (t := 44) (fun _ => by kernel_rfl) (fun _ => by kernel_rfl); obtain ⟨z0, z1, z2⟩ := kc.c3; go_simp
          try simp only [Act.put, List.getElem_toArray, List.getElem_cons_succ, List.getElem_cons_zero, List.setIfInBounds_toArray, List.set_cons_zero, List.set_cons_succ]
          refine wpAnyH_ready (rs := [7]) (by kernel_rfl) (by simp) ?_
          refine allCall (f := 14) (args := #[.agg #[.int .i64 v.kind, .int .i64 v.n, .string ⟨v.s.toArray⟩], .agg #[.int .i64 vL.kind, .int .i64 vL.n, .string ⟨vL.s.toArray⟩]]) rfl (by kernel_rfl) (by kernel_rfl) ?_ AllReadyH.nil
          refine Compare_any v vL wz15.drew _ (fun wq1 hB => ?_)
          rw [← Hc1.out]
          refine ⟨_, rfl, hHeld.trans (hB.mono hHeld.size), ?_⟩
          have hHeld2 := hHeld.trans (hB.mono hHeld.size)
          clear hHeld
          have hHeld := hHeld2
          clear hHeld2
          clear hB
          try simp only [Act.put, List.getElem_toArray, List.getElem_cons_succ, List.getElem_cons_zero, List.setIfInBounds_toArray, List.set_cons_zero, List.set_cons_succ]
          refine wpAnyH_take (i := 8) (v := .bool false) rfl (by kernel_rfl) (by kernel_rfl) (by kernel_rfl) (fun _ _ _ h => h) (Or.inl ⟨by rfl, ?_⟩) hHeld ?_
          · intro w' hSw; go_simp
          try simp only [Act.put, List.getElem_toArray, List.getElem_cons_succ, List.getElem_cons_zero, List.setIfInBounds_toArray, List.set_cons_zero, List.set_cons_succ]
          refine wpAnyH_take (i := 9) (v := .bool false) rfl (by kernel_rfl) (by kernel_rfl) (by kernel_rfl) (fun _ _ _ h => h) (Or.inl ⟨by rfl, ?_⟩) hHeld ?_
          · intro w' hSw; go_simp
          try simp only [Act.put, List.getElem_toArray, List.getElem_cons_succ, List.getElem_cons_zero, List.setIfInBounds_toArray, List.set_cons_zero, List.set_cons_succ]
          refine wpAnyH_take (i := 10) (v := .agg #[.int .i64 v.kind, .int .i64 v.n, .string ⟨v.s.toArray⟩]) rfl (by kernel_rfl) (by kernel_rfl) (by kernel_rfl) (fun _ _ _ h => h) (Or.inl ⟨by rfl, ?_⟩) hHeld ?_
          · intro w' hSw; have kc := (Hv.out.below hSw Hv.out.lt).cells; have kx := kc.runVar (P := Tryz.prog) (t := 44) (fun _ => by kernel_rfl) (fun _ => by kernel_rfl); obtain ⟨z0, z1, z2⟩ := kc.c3; simp only [Nat.zero_add] at z1 z2; go_simp
          try simp only [Act.put, List.getElem_toArray, List.getElem_cons_succ, List.getElem_cons_zero, List.setIfInBounds_toArray, List.set_cons_zero, List.set_cons_succ]
          refine wpAnyH_take (i := 11) (v := .pointer (some ⟨b17, 1, none⟩)) rfl (by kernel_rfl) (by kernel_rfl) (by kernel_rfl) (fun _ _ _ h => h) (Or.inl ⟨by rfl, ?_⟩) hHeld ?_
          · intro w' hSw; go_simp
          try simp only [Act.put, List.getElem_toArray, List.getElem_cons_succ, List.getElem_cons_zero, List.setIfInBounds_toArray, List.set_cons_zero, List.set_cons_succ]
          refine wpAnyH_take (i := 12) (v := .slice (some ⟨bt, ot, none⟩) 1 qu) rfl (by kernel_rfl) (by kernel_rfl) (by kernel_rfl) (fun _ _ _ h => h) (Or.inl ⟨by rfl, ?_⟩) hHeld ?_
          · intro w' hSw; have kc := (Ht.out.below hSw Ht.out.lt).cells; obtain ⟨z0, z1⟩ := kc.c2; simp only [Nat.zero_add] at z1; go_simp
          try simp only [Act.put, List.getElem_toArray, List.getElem_cons_succ, List.getElem_cons_zero, List.setIfInBounds_toArray, List.set_cons_zero, List.set_cons_succ]
          refine wpAnyH_take (i := 13) (v := .pointer (some ⟨bt, ot, none⟩)) rfl (by kernel_rfl) (by kernel_rfl) (by kernel_rfl) (fun _ _ _ h => h) (Or.inl ⟨by rfl, ?_⟩) hHeld ?_
          · intro w' hSw; go_simp
          try simp only [Act.put, List.getElem_toArray, List.getElem_cons_succ, List.getElem_cons_zero, List.setIfInBounds_toArray, List.set_cons_zero, List.set_cons_succ]
          refine wpAnyH_take (i := 14) (v := .slice (some ⟨br, orr, none⟩) 3 mr) rfl (by kernel_rfl) (by kernel_rfl) (by kernel_rfl) (fun _ _ _ h => h) (Or.inl ⟨by rfl, ?_⟩) hHeld ?_
          · intro w' hSw; have kx := (Hrt.out.below hSw).cells.c1; go_simp
          try simp only [Act.put, List.getElem_toArray, List.getElem_cons_succ, List.getElem_cons_zero, List.setIfInBounds_toArray, List.set_cons_zero, List.set_cons_succ]
          refine wpAnyH_take (i := 15) (v := .pointer (some ⟨br, orr + 6, none⟩)) rfl (by kernel_rfl) (by kernel_rfl) (by kernel_rfl) (fun _ _ _ h => h) (Or.inl ⟨by rfl, ?_⟩) hHeld ?_
          · intro w' hSw; go_simp
          try simp only [Act.put, List.getElem_toArray, List.getElem_cons_succ, List.getElem_cons_zero, List.setIfInBounds_toArray, List.set_cons_zero, List.set_cons_succ]
          refine wpAnyH_take (i := 16) (v := .agg #[.int .i64 vG.kind, .int .i64 vG.n, .string ⟨vG.s.toArray⟩]) rfl (by kernel_rfl) (by kernel_rfl) (by kernel_rfl) (fun _ _ _ h => h) (Or.inl ⟨by rfl, ?_⟩) hHeld ?_
          · intro w' hSw; have kc := (Hv2.out.below hSw).cells; have kx := kc.runVar (P := Tryz.prog) (t := 44) (fun _ => by kernel_rfl) (fun _ => by kernel_rfl); obtain ⟨z0, z1, z2⟩ := kc.c3; go_simp
          try simp only [Act.put, List.getElem_toArray, List.getElem_cons_succ, List.getElem_cons_zero, List.setIfInBounds_toArray, List.set_cons_zero, List.set_cons_succ]
          refine wpAnyH_ready (rs := [17]) (by kernel_rfl) (by simp) ?_
          refine allCall (f := 14) (args := #[.agg #[.int .i64 v.kind, .int .i64 v.n, .string ⟨v.s.toArray⟩], .agg #[.int .i64 vG.kind, .int .i64 vG.n, .string ⟨vG.s.toArray⟩]]) rfl (by kernel_rfl) (by kernel_rfl) ?_ AllReadyH.nil
          refine Compare_any v vG wq1 _ (fun wq2 hB => ?_)
          rw [← Hc2.out]
          refine ⟨_, rfl, hHeld.trans (hB.mono hHeld.size), ?_⟩
          have hHeld2 := hHeld.trans (hB.mono hHeld.size)
          clear hHeld
          have hHeld := hHeld2
          clear hHeld2
          clear hB
          try simp only [Act.put, List.getElem_toArray, List.getElem_cons_succ, List.getElem_cons_zero, List.setIfInBounds_toArray, List.set_cons_zero, List.set_cons_succ]
          refine wpAnyH_take (i := 18) (v := .bool false) rfl (by kernel_rfl) (by kernel_rfl) (by kernel_rfl) (fun _ _ _ h => h) (Or.inl ⟨by rfl, ?_⟩) hHeld ?_
          · intro w' hSw; go_simp
          try simp only [Act.put, List.getElem_toArray, List.getElem_cons_succ, List.getElem_cons_zero, List.setIfInBounds_toArray, List.set_cons_zero, List.set_cons_succ]
          refine wpAnyH_take (i := 19) (v := .bool false) rfl (by kernel_rfl) (by kernel_rfl) (by kernel_rfl) (fun _ _ _ h => h) (Or.inl ⟨by rfl, ?_⟩) hHeld ?_
          · intro w' hSw; go_simp
          try simp only [Act.put, List.getElem_toArray, List.getElem_cons_succ, List.getElem_cons_zero, List.setIfInBounds_toArray, List.set_cons_zero, List.set_cons_succ]
          refine wpAnyH_done (by kernel_rfl) ?_ _
          have hB := hHeld
          clear hHeld
          replace HB := Lib.hid (HB.out.trans (hB.mono HB.out.size))
          replace Hr := Lib.hid (Hr.out.below hB)
          replace Ht := Lib.hid (Ht.out.below hB Ht.out.lt)
          replace HBk := Lib.hid (HBk.out.trans (hB.mono HBk.out.size))
          replace Hv := Lib.hid (Hv.out.below hB Hv.out.lt)
          replace Hv1 := Lib.hid (AtC.below Hv1.out hB)
          replace Hv2 := Lib.hid (AtC.below Hv2.out hB)
          replace Hrt := Lib.hid (AtC.below Hrt.out hB)
          clear hB
          go_wp2_with fail
          go_roundw
          case rel => exact ⟨k + 1, g1, g2, by omega, Hg1, Hg2, by go_num, rfl, rfl, HBk.out⟩
          case measure => simp [intOf]; omega
        · obtain rfl : k = l.length := by omega
          have llt : ¬ ((l.length : Nat) : Int) < (l.length : Int) := by omega
          obtain rfl : f1 = true := H1.out (by rw [← Hcl.out, List.take_length]; exact HvLm.out)
          obtain rfl : f2 = true := H2.out (by rw [← Hcl.out, List.take_length]; exact HvGm.out)
          clear hk hlt H1 H2
          have hr := HR.out wo HB.out
          go_wp2_with fail
          first | exact hr | exact fin hr rfl
end Go.Proofs.YtmconajkgjfplaaGreat
end

/- FoldParts' walk, of a relation as an argument lays it. -/
section
set_option linter.unusedVariables false
set_option linter.unusedSimpArgs false
namespace Go.Proofs.YtmconajkgjfplaaGreat
open Go.RowKit
theorem FoldParts_rel (p : List S × List (List V)) (v : Value) (cols : List S) (cv : Value) (w : World) (hp : RelIn w v p) (ho : relOkV p) (hcols : Strs 0 w.heap.size w cv cols) (R : Ending → World → Prop)
    (hR : ∀ w', Below w.heap.size w w' → R (.returned (.bool true)) w') : Calls Tryz.prog 3 #[v, cv] w R := by
  obtain ⟨ac, cc, lv, rfl, h1, h2⟩ := hp
  obtain ⟨q, m, rfl, -, -, -, -⟩ := h2.form
  exact FoldParts_any w ⟨h1, h2⟩ hcols (fun x hx a ha => ho x hx a ha) R hR
end Go.Proofs.YtmconajkgjfplaaGreat
end

/- FoldParts holds outright: for any relation and columns the call returns true, and the arguments read behind it as before. No condition. -/
section
set_option linter.unusedVariables false
set_option linter.unusedSimpArgs false
namespace Go.Proofs.YtmconajkgjfplaaGreat.foldParts
open Go.ChangeShapes Go.WideShapes Go.ChangeAt Go.RowKit
open Go.ChangeMaps (open_string shut_string)
set_option linter.unusedVariables false

set_option maxRecDepth 100000 in
theorem contract (H : Type) (enc : TypeId × Value → H) (W : World) (base : Nat) (args : Array Value) (ds gs : List (DataW H)) (before : List MemPlace)
    (hval : ∀ (j : Nat) t v, Tryz.f3.params[j]? = some t → args[j]? = some v → Value.okWide Tryz.prog W .any base t v)
    (hW : DataW.Whole enc Tryz.prog Tryz.f3.params.toList Rows.foldPartsSpec.vars false W args.toList ds gs before) :
    Calls Tryz.prog 3 args W fun e W' => ∃ v, e = .returned v ∧ Rows.foldPartsSpec.post enc Tryz.prog Tryz.f3 false true false false W args v W' := by
  have hW' := hW
  obtain ⟨p, q, hA0, hV, rfl, hfz, hnd⟩ := hW
  have hA : DataW.TrodAll enc Tryz.prog W 0 (fun _ => true) true Tryz.f3.params.toList args.toList ds p := hA0
  rw [Tryz.params3] at hA hval
  have hAk := hA
  obtain ⟨v0, vs0, d0, ds0, p0, q0, hargs, rfl, rfl, h0, r0⟩ := trodAll_cons hA
  obtain ⟨v1, vs1, d1, ds1, p1, q1, rfl, rfl, rfl, h1, r1⟩ := trodAll_cons r0
  obtain ⟨rfl, rfl, rfl⟩ := trodAll_nil r1
  obtain rfl : args = #[v0, v1] := by cases args; simp_all
  obtain ⟨rfl, rfl⟩ := trodVars_none hV
  obtain ⟨x0, s0, o0⟩ := open_relV (hval 0 25 v0 rfl rfl) h0
  obtain ⟨a1, len1, cap1, rfl⟩ := okWide_slice Tryz.underlying22 (hval 1 22 v1 rfl rfl)
  obtain ⟨n1, h1⟩ := h1
  obtain ⟨x1, s1, o1⟩ := open_sl (α := S) (E := flat strE) (ok := colOk) Tryz.underlying22 (size := 1) (by kernel_rfl) (by decide) el_col (by simpa [Value.cells] using h1)
  clear hA0
  refine FoldParts_rel x0 _ x1 _ W s0 o0 s1 _ fun W' bel => ?_
  exact ⟨_, rfl, _, _, _, [], _, [], hW', trodAll_mk1 (shut_bool Tryz.underlying4 _), trodAll_below laidOut bel _ _ _ _ (by kernel_rfl) hAk, rfl, bel.frame _, fun h => by cases h⟩

set_option maxRecDepth 100000 in
theorem lifted (os : Os) (started : os.Started) (H : Type) (enc : TypeId × Value → H) :
    ReturnsInHanded {} Tryz.checked os 3 .any (Rows.foldPartsSpec.pre6 enc Tryz.prog Tryz.f3 Rows.foldPartsRow.domain false) (Rows.foldPartsSpec.post enc Tryz.prog Tryz.f3 false true false false) := by
  refine returnsInHanded_of_change (C := Tryz.checked) own started (by kernel_rfl) Tryz.func3
    (ChangeSpec.witness6 (enc := enc) (C := Tryz.checked) false ⟨#[], #[.agg #[.slice none 0 0, .slice none 0 0], .slice none 0 0], []⟩ 8 (by kernel_rfl) (by kernel_rfl) (by kernel_rfl) (by kernel_rfl)) ?_
  intro W base args ds gs before hval hW _ _
  exact contract H enc W base args ds gs before hval hW

theorem over : Rows.foldPartsRow.holds Tryz.pinned (OpenSpec.ofChange Rows.foldPartsSpec) :=
  OpenClaim.holds_of_wide 3 Tryz.f3 rfl rfl rfl rfl rfl rfl rfl ⟨rfl, rfl, rfl, rfl, rfl⟩ rfl rfl rfl rfl rfl (by kernel_rfl) Tryz.func3 (by kernel_rfl)
    (of_decide_eq_true (by kernel_rfl)) (by unfold Func.isWrapper; first | (rw [if_pos (by decide +kernel)]; kernel_rfl) | (rw [if_neg (by decide +kernel)]; exact ⟨rfl, rfl⟩))
    (fun os started H enc _ => lifted os started H enc)

theorem proved : Rows.FoldPartsSaid := over
end Go.Proofs.YtmconajkgjfplaaGreat.foldParts
end
