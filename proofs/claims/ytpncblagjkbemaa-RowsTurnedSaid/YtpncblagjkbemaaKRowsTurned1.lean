/- RowsTurned holds outright: for any columns and rows the call returns true, and the arguments read behind it as before. No condition. -/
import Derived.Test.YtpncblagjkbemaaKRB6
/- RowsTurned, walked. (Printed by outtu.py.) -/
section
set_option linter.unusedVariables false
set_option linter.unusedSimpArgs false
namespace Go.Proofs.Ytpncblagjkbemaa
open Go.RowKit
set_option linter.unusedVariables false
set_option linter.unusedSimpArgs false
attribute [local go_sem ↓] Go.wp_at_zero Go.wp_at_succ

/-- A row twice, behind rows of which the headers are a call's own. -/
theorem LS.snoc2 {lo a b : Nat} {w : World} {v : Value} {xs : List (List V)} (h : LS lo a b w v xs) (hbl : b ≤ lo) (pa : Option Addr) (pc : Nat) (x : List V) (hx : Row1 a b w (.slice pa x.length pc) x) {n : Nat} (hn : n = w.heap.size) (hb : xs.length ≤ 4000000000000) (hlo : lo ≤ w.heap.size) :
    ∃ v' w', (Builtin.append_ #[32, 32] 32 #[v, .slice (some ⟨n, 0, none⟩) 2 2]).run Try.prog (w.alloc (.cells #[.slice pa x.length pc, .slice pa x.length pc] 42)) = .ok v' w' ∧ LS lo a b w' v' (xs ++ [x, x]) ∧ Appended w v w' v' := by
  subst hn
  obtain ⟨hs, hl, ho, hr⟩ := h
  have hB := alloc_below w (.cells ([(⟨pa, x.length, pc⟩ : HD), ⟨pa, x.length, pc⟩].flatMap HD.enc).toArray 42)
  obtain ⟨i0, hi, hz0, hz1, hz2⟩ := info_parts infoHD
  have hc := CellsAt.newAt w ([(⟨pa, x.length, pc⟩ : HD), ⟨pa, x.length, pc⟩].flatMap HD.enc) 42 rfl
  have hsr : Src Try.prog 1 32 (.slice (some ⟨w.heap.size, 0, none⟩) 2 2) [(⟨pa, x.length, pc⟩ : HD), ⟨pa, x.length, pc⟩].length ([(⟨pa, x.length, pc⟩ : HD), ⟨pa, x.length, pc⟩].flatMap HD.enc) (w.alloc (.cells ([(⟨pa, x.length, pc⟩ : HD), ⟨pa, x.length, pc⟩].flatMap HD.enc).toArray 42)) :=
    Src.ofSlice _ Try.underlying32 _ _ _ _ (by simp [HD.enc]) (fun j u hu => by rw [Addr.add_lit]; exact hc j u hu) (fun u hu => by
      obtain ⟨y, -, hy⟩ := List.mem_flatMap.1 hu
      exact HD.one _ u hy)
  obtain ⟨v', w', hrun, ho', hap⟩ := (Own.kept ho hB).app _ _ _ i0 _ 24 Try.underlying32 hi hz0 hz1 hz2 rfl hsr (by simp only [List.length_cons, List.length_nil]; omega) (by omega) (Nat.le_trans hlo hB.size)
  have hapw := (Appended.step v hB).trans hap
  have hag : Agree a b w w' := hapw.agree (by omega) (fun k e => .inr (by have := (Own.lt ho k e).1; omega))
  refine ⟨v', w', hrun, ⟨hs ++ [⟨pa, x.length, pc⟩, ⟨pa, x.length, pc⟩], by simp [hl], ho', fun i h1 h2 => ?_⟩, hapw⟩
  by_cases hi2 : i < hs.length
  · rw [List.getElem_append_left hi2, List.getElem_append_left (by omega)]
    exact (hr i hi2 (by omega)).agree Row1.loc hag
  · rw [List.getElem_append_right (by omega), List.getElem_append_right (by omega)]
    have h3 : i - hs.length = 0 ∨ i - hs.length = 1 := by simp at h1; omega
    rcases h3 with h3 | h3
    · simp only [← hl, h3, List.getElem_cons_zero]
      exact hx.agree Row1.loc hag
    · simp only [← hl, h3, List.getElem_cons_succ, List.getElem_cons_zero]
      exact hx.agree Row1.loc hag
theorem back_step (l : List (List V)) (n : Nat) (h : n < l.length) : (l.drop n).reverse.flatMap (fun x => [x, x]) = (l.drop (n + 1)).reverse.flatMap (fun x => [x, x]) ++ [l[n], l[n]] := by
  rw [List.drop_eq_getElem_cons h, List.reverse_cons, List.flatMap_append]
  rfl
theorem back_len (l : List (List V)) : (l.flatMap fun x => [x, x]).length = 2 * l.length := by
  induction l with
  | nil => rfl
  | cons a r ih => rw [List.flatMap_cons, List.length_append, ih]; simp; omega
set_option maxRecDepth 100000 in
set_option maxHeartbeats 8000000 in
theorem RowsTurned_any {pc pl : Option Addr} {qc ql : Nat} {cols : List S} {l : List (List V)} (w : World) (h1 : Strs 0 w.heap.size w (.slice pc cols.length qc) cols) (h2 : Rws 0 w.heap.size w (.slice pl l.length ql) l) (hrs : ∀ x ∈ l, ∀ a ∈ x, a.s.length ≤ 9223372036854775807) (R : Ending → World → Prop)
    (hR : ∀ w', Below w.heap.size w w' → R (.returned (.bool true)) w') : Calls Try.prog 8 #[.slice pc cols.length qc, .slice pl l.length ql] w R := by
  have HR := Lib.hid hR
  have Hrs := Lib.hid hrs
  have hB0 : Below w.heap.size w w := Below.refl _ _
  have hl63 := h2.len
  clear hR hrs
  go_enter Try.func8, Try.ntmps8
  have HB := Lib.hid (hB0)
  have Hc := Lib.hid (show (Pd.strs cols).says _ _ from h1)
  have Hl := Lib.hid (show (Pd.rows l).says _ _ from h2)
  clear hB0 h1 h2
  go_wp2_with fail
  refine alive_P w _ (fun wc1 hB => ?_)
  replace HB := Lib.hid (HB.out.trans (hB.mono HB.out.size))
  replace Hc := Lib.hid (Pd.step Hc.out hB)
  replace Hl := Lib.hid (Pd.step Hl.out hB)
  clear hB
  go_wp2_with fail
  refine great_any 0 wc1.heap.size cols _ _ l _ wc1 Hl.out _ ?_
  cases hg : greatB cols l
  case true =>
    clear hg
    have hr := HR.out wc1 HB.out
    go_wp2_with fail
    first | exact hr | exact fin hr rfl
  obtain ⟨hcl, -, hxl⟩ := great_no hg
  have Hxl := Lib.hid hxl
  clear hg hxl
  by_cases h70 : 70 < l.length
  case pos =>
    have g70 : (70 : Int) < (l.length : Int) := by omega
    have hr := HR.out wc1 HB.out
    go_wp2_with fail
    first | exact hr | exact fin hr rfl
  have g70 : ¬ (70 : Int) < (l.length : Int) := by omega
  have g70d : decide ((70 : Int) < (l.length : Int)) = false := by rw [decide_eq_false_iff_not]; exact g70
  have hl70 : l.length ≤ 70 := by omega
  clear h70
  go_wp2_with fail
  clear g70 g70d
  go_loopw [6, 7] (fun t6 t7 wr => ∃ j : Nat, j ≤ l.length ∧ t7 = .int .i64 ((j : Int) - 1) ∧ LS wc1.heap.size 0 wc1.heap.size wr t6 ((l.drop j).reverse.flatMap fun x => [x, x]) ∧ Below wc1.heap.size wc1 wr) (fun _ t7 _ => (intOf t7 + 1).toNat)
  case atStart => exact ⟨l.length, Nat.le_refl _, rfl, by rw [List.drop_length]; exact LS.nil _ _ _ _, Below.refl _ _⟩
  case round =>
    obtain ⟨j, hj, ht7, hls, hB⟩ := hrel
    obtain ⟨wo, ewo⟩ : ∃ x, x = wr := ⟨_, rfl⟩
    subst ewo
    have Hls := Lib.hid hls
    have HBo := Lib.hid hB
    have hzo := hB.size
    have Hlen : Hid (((l.drop j).reverse.flatMap fun x => [x, x]).length = 2 * (l.length - j)) := Lib.hid (by rw [back_len, List.length_reverse, List.length_drop])
    obtain ⟨p6, c6, rfl⟩ := LS.slice hls
    clear hls hB
    by_cases hj0 : j = 0
    · subst hj0
      subst ht7
      have hB := HBo.out
      have Hls2 : Hid (LS wc1.heap.size 0 wc1.heap.size wo (.slice p6 (backL l).length c6) (backL l)) := Lib.hid Hls.out
      rw [show ((l.drop 0).reverse.flatMap fun x => [x, x]).length = (backL l).length from rfl]
      have herb := back_err cols l
      have hrb := back_rows l
      have hbl : (backL l).length = 2 * l.length := by unfold backL; rw [back_len, List.length_reverse]
      have hbm : ∀ x ∈ backL l, x ∈ l := fun x hx => backL_mem.1 hx
      clear Hls Hlen
      generalize backL l = bk at *
      have Hbl := Lib.hid hbl
      have Hbm := Lib.hid hbm
      replace HB := Lib.hid (HB.out.trans (hB.mono HB.out.size))
      replace Hc := Lib.hid (Pd.step Hc.out hB)
      replace Hl := Lib.hid (Pd.step Hl.out hB)
      have Hbk2 : Hid ((Pd.rows bk).says (.slice p6 bk.length c6) wo) := Lib.hid (LS.rws Hls2.out hzo)
      clear hB hbl hbm Hls2 hzo HBo
      obtain ⟨er, her⟩ : ∃ e, ofErr cols l = e := ⟨_, rfl⟩
      by_cases he0 : er = 0
      · subst he0
        obtain ⟨L1, hL1⟩ : ∃ L, relCanon l = L := ⟨_, rfl⟩
        have hst : ∀ x ∈ L1, ∀ a ∈ x, a.s.length ≤ 9223372036854775807 := fun x hx => Hrs.out x (relCanon_mem (by rw [hL1]; exact hx))
        have hup : Up cmpR L1 := by rw [← hL1]; exact canon_up' l
        have hl1 : L1.length ≤ l.length := by rw [← hL1]; exact canon_len_le l
        have hhas : ∀ k (h : k < l.length), hasB cols L1 l[k] = true := fun k h => by rw [← hL1]; exact of_has her (List.getElem_mem h)
        have Her := Lib.hid her
        have Herb := Lib.hid (herb.trans her)
        have Hco : Hid (okL 0 cols = cols) := Lib.hid rfl
        have Hco2 : Hid (okL 0 cols = cols) := Lib.hid rfl
        have Hlo : Hid (okL 0 (relCanon l) = L1) := Lib.hid hL1
        have Hlo2 : Hid (okL 0 (relCanon bk) = L1) := Lib.hid (hrb.trans hL1)
        have Hst := Lib.hid hst
        have Hup := Lib.hid hup
        have Hl1 : Hid (L1.length ≤ l.length ∧ l.length ≤ 70) := Lib.hid ⟨hl1, hl70⟩
        have Hhas := Lib.hid hhas
        clear her herb hrb hL1 hst hup hl1 hhas
        go_wp2_with fail
        refine Of_K Hc.out Hl.out (by omega) (fun x hx => by have := Hxl.out x hx; omega) (e := 0) (co := cols) (lo := L1) Her.out Hco.out Hlo.out _ (fun wc101 v hB hV => ?_)
        obtain ⟨p102, q103, p104, q105, rfl, hV⟩ := hV
        replace HB := Lib.hid (HB.out.trans (hB.mono HB.out.size))
        replace Hc := Lib.hid (Pd.step Hc.out hB)
        replace Hl := Lib.hid (Pd.step Hl.out hB)
        replace Hbk2 := Lib.hid (Pd.step Hbk2.out hB)
        have Hrel106 := Lib.hid (show (Pd.rel _ _).says _ _ from ⟨_, _, _, _, rfl, hV⟩)
        clear hB hV
        go_upto_region 10 with fail
        have hb := RelH.box (n := wc101.heap.size) (relH Hrel106.out) rfl
        have hB := alloc_below wc101 (.cells #[.slice p102 cols.length q103, .slice p104 L1.length q105] 34)
        try simp only [List.length_cons, List.length_nil, Nat.zero_add, Nat.reduceAdd] at hb
        generalize wc101.alloc (.cells #[.slice p102 cols.length q103, .slice p104 L1.length q105] 34) = w107 at *
        obtain ⟨b8, eb8⟩ : ∃ b, b = wc101.heap.size := ⟨_, rfl⟩
        rw [← eb8] at hb ⊢
        clear eb8
        replace HB := Lib.hid (HB.out.trans (hB.mono HB.out.size))
        replace Hc := Lib.hid (Pd.step Hc.out hB)
        replace Hl := Lib.hid (Pd.step Hl.out hB)
        replace Hbk2 := Lib.hid (Pd.step Hbk2.out hB)
        replace Hrel106 := Lib.hid (Pd.step Hrel106.out hB)
        have Ha := Lib.hid (hb)
        clear hB hb
        clear Hrel106
        go_wp2_with fail
        refine Of_K Hc.out Hbk2.out (by have := Hbl.out; omega) (fun x hx => by have := Hxl.out x (Hbm.out x hx); omega) (e := 0) (co := cols) (lo := L1) Herb.out Hco2.out Hlo2.out _ (fun wc108 v hB hV => ?_)
        obtain ⟨p109, q110, p111, q112, rfl, hV⟩ := hV
        replace HB := Lib.hid (HB.out.trans (hB.mono HB.out.size))
        replace Hc := Lib.hid (Pd.step Hc.out hB)
        replace Hl := Lib.hid (Pd.step Hl.out hB)
        replace Hbk2 := Lib.hid (Pd.step Hbk2.out hB)
        replace Ha := Lib.hid (Ha.out.below hB)
        have Hrel113 := Lib.hid (show (Pd.rel _ _).says _ _ from ⟨_, _, _, _, rfl, hV⟩)
        clear hB hV
        go_upto_region 11 with fail
        have hb := RelH.box (n := wc108.heap.size) (relH Hrel113.out) rfl
        have hB := alloc_below wc108 (.cells #[.slice p109 cols.length q110, .slice p111 L1.length q112] 34)
        try simp only [List.length_cons, List.length_nil, Nat.zero_add, Nat.reduceAdd] at hb
        generalize wc108.alloc (.cells #[.slice p109 cols.length q110, .slice p111 L1.length q112] 34) = w114 at *
        obtain ⟨b10, eb10⟩ : ∃ b, b = wc108.heap.size := ⟨_, rfl⟩
        rw [← eb10] at hb ⊢
        clear eb10
        replace HB := Lib.hid (HB.out.trans (hB.mono HB.out.size))
        replace Hc := Lib.hid (Pd.step Hc.out hB)
        replace Hl := Lib.hid (Pd.step Hl.out hB)
        replace Hbk2 := Lib.hid (Pd.step Hbk2.out hB)
        replace Ha := Lib.hid (Ha.out.below hB)
        replace Hrel113 := Lib.hid (Pd.step Hrel113.out hB)
        have Hb := Lib.hid (hb)
        clear hB hb
        clear Hrel113
        obtain ⟨c0, c1⟩ := Ha.out.blk.cells.c2
        simp only [Nat.zero_add] at c1
        obtain ⟨d0, d1⟩ := Hb.out.blk.cells.c2
        simp only [Nat.zero_add] at d1
        go_wp2_with fail
        refine Same_K Ha.out.rel Hb.out.rel rfl rfl Hst.out _ (fun wc115 hB => ?_)
        replace HB := Lib.hid (HB.out.trans (hB.mono HB.out.size))
        replace Hc := Lib.hid (Pd.step Hc.out hB)
        replace Hl := Lib.hid (Pd.step Hl.out hB)
        replace Hbk2 := Lib.hid (Pd.step Hbk2.out hB)
        replace Ha := Lib.hid (Ha.out.below hB)
        replace Hb := Lib.hid (Hb.out.below hB)
        clear hB c0 c1 d0 d1
        clear Hb Hbk2
        go_wp2_with fail
        go_loopw [69] (fun t69 wr => ∃ k : Nat, k ≤ l.length ∧ t69 = .int .i64 k ∧ Below wc115.heap.size wc115 wr) (fun t69 _ => l.length - (intOf t69).toNat)
        case atStart => exact ⟨0, Nat.zero_le _, rfl, Below.refl _ _⟩
        case round =>
          obtain ⟨k, hk, rfl, hB⟩ := hrel
          obtain ⟨wo2, ewo⟩ : ∃ x, x = wr := ⟨_, rfl⟩
          subst ewo
          have HBo := Lib.hid hB
          clear hB
          have kk0 : (0 : Int) ≤ (k : Int) := by omega
          by_cases hlt : k < l.length
          · have kkl : (k : Int) < (l.length : Int) := by omega
            obtain ⟨bl, ol, rfl, hbl, hat⟩ := Rws.at Hl.out (Nat.le_refl _) (by omega)
            obtain ⟨q2, m2, hcell, hrow⟩ := hat k hlt
            have hrow' := Sl.below hrow Row1.loc HBo.out (Nat.le_refl _)
            have Hrow := Lib.hid hrow'
            have hrw : RelH wo2 p102 q103 p104 q105 cols L1 := Ha.out.rel.below HBo.out
            have Hrw := Lib.hid hrw
            have Hh : Hid (hasB cols L1 l[k] = true) := Lib.hid (Hhas.out k hlt)
            clear hat hrow hrow' hrw
            go_upto_region 16 with fail
            have hS0 : Below wo2.heap.size wo2 wo2.drew := (Below.refl _ _).drew
            refine wp_region_held_drew (S := fun w' => Below wo2.heap.size wo2 w') (by kernel_rfl) hS0 (fun hHeld => ?_)
            clear hS0
            generalize wo2.drew = wd at *
            refine wpAnyH_take (i := 0) (v := .int .i64 0) rfl (by kernel_rfl) (by kernel_rfl) (by kernel_rfl) (fun _ _ _ h => h) (Or.inl ⟨by rfl, ?_⟩) hHeld ?_
            · intro w' hSw; go_simp
            try simp only [Act.put, List.getElem_toArray, List.getElem_cons_succ, List.getElem_cons_zero, List.setIfInBounds_toArray, List.set_cons_zero, List.set_cons_succ]
            refine wpAnyH_take (i := 1) (v := .bool true) rfl (by kernel_rfl) (by kernel_rfl) (by kernel_rfl) (fun _ _ _ h => h) (Or.inl ⟨by rfl, ?_⟩) hHeld ?_
            · intro w' hSw; go_simp
            try simp only [Act.put, List.getElem_toArray, List.getElem_cons_succ, List.getElem_cons_zero, List.setIfInBounds_toArray, List.set_cons_zero, List.set_cons_succ]
            refine wpAnyH_take (i := 2) (v := .bool true) rfl (by kernel_rfl) (by kernel_rfl) (by kernel_rfl) (fun _ _ _ h => h) (Or.inl ⟨by rfl, ?_⟩) hHeld ?_
            · intro w' hSw; go_simp
            try simp only [Act.put, List.getElem_toArray, List.getElem_cons_succ, List.getElem_cons_zero, List.setIfInBounds_toArray, List.set_cons_zero, List.set_cons_succ]
            refine wpAnyH_take (i := 3) (v := .agg #[.slice p102 cols.length q103, .slice p104 L1.length q105]) rfl (by kernel_rfl) (by kernel_rfl) (by kernel_rfl) (fun _ _ _ h => h) (Or.inl ⟨by rfl, ?_⟩) hHeld ?_
            · intro w' hSw; obtain ⟨z0, z1⟩ := ((Ha.out.blk.below HBo.out Ha.out.blk.lt).below hSw (Ha.out.blk.below HBo.out Ha.out.blk.lt).lt).cells.c2; simp only [Nat.zero_add] at z1; go_simp
            try simp only [Act.put, List.getElem_toArray, List.getElem_cons_succ, List.getElem_cons_zero, List.setIfInBounds_toArray, List.set_cons_zero, List.set_cons_succ]
            refine wpAnyH_take (i := 4) (v := .slice (some ⟨bl, ol, none⟩) l.length ql) rfl (by kernel_rfl) (by kernel_rfl) (by kernel_rfl) (fun _ _ _ h => h) (Or.inl ⟨by rfl, ?_⟩) hHeld ?_
            · intro w' hSw; go_simp
            try simp only [Act.put, List.getElem_toArray, List.getElem_cons_succ, List.getElem_cons_zero, List.setIfInBounds_toArray, List.set_cons_zero, List.set_cons_succ]
            refine wpAnyH_take (i := 5) (v := .int .i64 ((k : Int))) rfl (by kernel_rfl) (by kernel_rfl) (by kernel_rfl) (fun _ _ _ h => h) (Or.inl ⟨by rfl, ?_⟩) hHeld ?_
            · intro w' hSw; go_simp
            try simp only [Act.put, List.getElem_toArray, List.getElem_cons_succ, List.getElem_cons_zero, List.setIfInBounds_toArray, List.set_cons_zero, List.set_cons_succ]
            refine wpAnyH_take (i := 6) (v := .pointer (some ⟨bl, ol + k, none⟩)) rfl (by kernel_rfl) (by kernel_rfl) (by kernel_rfl) (fun _ _ _ h => h) (Or.inl ⟨by rfl, ?_⟩) hHeld ?_
            · intro w' hSw; go_simp
            try simp only [Act.put, List.getElem_toArray, List.getElem_cons_succ, List.getElem_cons_zero, List.setIfInBounds_toArray, List.set_cons_zero, List.set_cons_succ]
            refine wpAnyH_take (i := 7) (v := .slice q2 l[k].length m2) rfl (by kernel_rfl) (by kernel_rfl) (by kernel_rfl) (fun _ _ _ h => h) (Or.inl ⟨by rfl, ?_⟩) hHeld ?_
            · intro w' hSw; have kx := hcell w' (HBo.out.trans (hSw.mono HBo.out.size)); go_simp
            try simp only [Act.put, List.getElem_toArray, List.getElem_cons_succ, List.getElem_cons_zero, List.setIfInBounds_toArray, List.set_cons_zero, List.set_cons_succ]
            refine wpAnyH_ready (rs := [8]) (by kernel_rfl) (by simp) ?_
            refine allCall (f := 39) (args := #[.agg #[.slice p102 cols.length q103, .slice p104 L1.length q105], .slice q2 l[k].length m2]) rfl (by kernel_rfl) (by kernel_rfl) ?_ AllReadyH.nil
            have hzz := hHeld.size
            refine Has_any 0 wo2.heap.size 0 wo2.heap.size 0 wc115.heap.size cols _ _ L1 _ l[k] _ wd (Sl.below Hrw.out.strs Strs.loc hHeld (Nat.le_refl _)) hzz (Sl.below Hrw.out.rws rowE_loc hHeld (Nat.le_refl _)) hzz (Sl.below Hrow.out Row1.loc hHeld HBo.out.size) (Nat.le_trans HBo.out.size hzz) _ (fun w8 hB8 => ?_)
            rw [Hh.out]
            refine ⟨_, rfl, hHeld.trans (hB8.mono hzz), ?_⟩
            have hHeld2 := hHeld.trans (hB8.mono hzz)
            clear hHeld
            have hHeld := hHeld2
            clear hHeld2 hB8 hzz
            try simp only [Act.put, List.getElem_toArray, List.getElem_cons_succ, List.getElem_cons_zero, List.setIfInBounds_toArray, List.set_cons_zero, List.set_cons_succ]
            refine wpAnyH_take (i := 9) (v := .bool false) rfl (by kernel_rfl) (by kernel_rfl) (by kernel_rfl) (fun _ _ _ h => h) (Or.inl ⟨by rfl, ?_⟩) hHeld ?_
            · intro w' hSw; go_simp
            try simp only [Act.put, List.getElem_toArray, List.getElem_cons_succ, List.getElem_cons_zero, List.setIfInBounds_toArray, List.set_cons_zero, List.set_cons_succ]
            refine wpAnyH_take (i := 10) (v := .bool false) rfl (by kernel_rfl) (by kernel_rfl) (by kernel_rfl) (fun _ _ _ h => h) (Or.inl ⟨by rfl, ?_⟩) hHeld ?_
            · intro w' hSw; go_simp
            try simp only [Act.put, List.getElem_toArray, List.getElem_cons_succ, List.getElem_cons_zero, List.setIfInBounds_toArray, List.set_cons_zero, List.set_cons_succ]
            refine wpAnyH_done (by kernel_rfl) ?_ _
            have Hb3 := Lib.hid (HBo.out.trans (hHeld.mono HBo.out.size))
            clear hHeld
            go_wp2_with fail
            go_roundw
            case rel => exact ⟨k + 1, by omega, by go_num, Hb3.out⟩
            case measure => simp [intOf]; omega
          · obtain rfl : k = l.length := by omega
            have hB := HBo.out
            replace HB := Lib.hid (HB.out.trans (hB.mono HB.out.size))
            replace Hc := Lib.hid (Pd.step Hc.out hB)
            replace Hl := Lib.hid (Pd.step Hl.out hB)
            replace Ha := Lib.hid (Ha.out.below hB)
            clear hB HBo
            obtain ⟨c0, c1⟩ := Ha.out.blk.cells.c2
            simp only [Nat.zero_add] at c1
            go_wp2_with fail
            clear c0 c1
            go_loopw [13] (fun t13 wr => ∃ k : Nat, 1 ≤ k ∧ (k ≤ L1.length ∨ k = 1) ∧ t13 = .int .i64 k ∧ Below wo2.heap.size wo2 wr) (fun t13 _ => L1.length - (intOf t13).toNat)
            case atStart => exact ⟨1, Nat.le_refl _, .inr rfl, rfl, Below.refl _ _⟩
            case round =>
              obtain ⟨i, hi1, hi2, rfl, hB⟩ := hrel
              obtain ⟨wo3, ewo⟩ : ∃ x, x = wr := ⟨_, rfl⟩
              subst ewo
              have HBo := Lib.hid hB
              clear hB
              have kk0 : (0 : Int) ≤ (i : Int) := by omega
              have Hbw : Hid (Blk wo3 b8 _ _) := Lib.hid (Ha.out.blk.below HBo.out Ha.out.blk.lt)
              obtain ⟨c0, c1⟩ := Hbw.out.cells.c2
              simp only [Nat.zero_add] at c1
              by_cases hlt : i < L1.length
              · have kkl : (i : Int) < (L1.length : Int) := by omega
                obtain ⟨bx, ox, epx, hbl, hat⟩ := Rws.at Ha.out.rel.rws (Nat.le_refl _) (by omega)
                obtain ⟨j, ej⟩ : ∃ j, i = j + 1 := ⟨i - 1, by omega⟩
                have hjl : j < L1.length := by omega
                obtain ⟨qi, mi, hci, hri⟩ := hat i hlt
                obtain ⟨qj, mj, hcj, hrj⟩ := hat j hjl
                have hup : cmpR L1[j] L1[i] = -1 := by have := up_step Hup.out (i := i) (by omega) hlt; simp only [ej, Nat.add_sub_cancel] at this ⊢; exact this
                have Hup2 := Lib.hid hup
                have hij : IntKind.i64.wrap ((i : Int) - 1) = (j : Int) := by rw [wrapOk (by omega) (by have := Hl1.out; omega)]; omega
                have jj0 : (0 : Int) ≤ (j : Int) := by omega
                have hi70 : i ≤ 70 := by have := Hl1.out; omega
                have jjl : (j : Int) < (L1.length : Int) := by omega
                have Hri := Lib.hid (Sl.below hri Row1.loc HBo.out (Nat.le_refl _))
                have Hrj := Lib.hid (Sl.below hrj Row1.loc HBo.out (Nat.le_refl _))
                have Hej := Lib.hid ej
                subst epx
                clear hat hri hrj hup ej
                go_upto_region 22 with fail
                have hS0 : Below wo3.heap.size wo3 wo3.drew := (Below.refl _ _).drew
                refine wp_region_held_drew (S := fun w' => Below wo3.heap.size wo3 w') (by kernel_rfl) hS0 (fun hHeld => ?_)
                clear hS0
                generalize wo3.drew = wd at *
                refine wpAnyH_take (i := 0) (v := .pointer (some ⟨b8, 1, none⟩)) rfl (by kernel_rfl) (by kernel_rfl) (by kernel_rfl) (fun _ _ _ h => h) (Or.inl ⟨by rfl, ?_⟩) hHeld ?_
                · intro w' hSw; go_simp
                try simp only [Act.put, List.getElem_toArray, List.getElem_cons_succ, List.getElem_cons_zero, List.setIfInBounds_toArray, List.set_cons_zero, List.set_cons_succ]
                refine wpAnyH_take (i := 1) (v := .slice (some ⟨bx, ox, none⟩) L1.length q105) rfl (by kernel_rfl) (by kernel_rfl) (by kernel_rfl) (fun _ _ _ h => h) (Or.inl ⟨by rfl, ?_⟩) hHeld ?_
                · intro w' hSw; obtain ⟨z0, z1⟩ := (Hbw.out.below hSw Hbw.out.lt).cells.c2; simp only [Nat.zero_add] at z1; go_simp
                try simp only [Act.put, List.getElem_toArray, List.getElem_cons_succ, List.getElem_cons_zero, List.setIfInBounds_toArray, List.set_cons_zero, List.set_cons_succ]
                refine wpAnyH_take (i := 2) (v := .int .i64 ((i : Int))) rfl (by kernel_rfl) (by kernel_rfl) (by kernel_rfl) (fun _ _ _ h => h) (Or.inl ⟨by rfl, ?_⟩) hHeld ?_
                · intro w' hSw; go_simp
                try simp only [Act.put, List.getElem_toArray, List.getElem_cons_succ, List.getElem_cons_zero, List.setIfInBounds_toArray, List.set_cons_zero, List.set_cons_succ]
                refine wpAnyH_take (i := 3) (v := .int .i64 ((j : Int))) rfl (by kernel_rfl) (by kernel_rfl) (by kernel_rfl) (fun _ _ _ h => h) (Or.inl ⟨by rfl, ?_⟩) hHeld ?_
                · intro w' hSw; have kx := hij; go_simp
                try simp only [Act.put, List.getElem_toArray, List.getElem_cons_succ, List.getElem_cons_zero, List.setIfInBounds_toArray, List.set_cons_zero, List.set_cons_succ]
                refine wpAnyH_take (i := 4) (v := .pointer (some ⟨bx, ox + j, none⟩)) rfl (by kernel_rfl) (by kernel_rfl) (by kernel_rfl) (fun _ _ _ h => h) (Or.inl ⟨by rfl, ?_⟩) hHeld ?_
                · intro w' hSw; go_simp
                try simp only [Act.put, List.getElem_toArray, List.getElem_cons_succ, List.getElem_cons_zero, List.setIfInBounds_toArray, List.set_cons_zero, List.set_cons_succ]
                refine wpAnyH_take (i := 5) (v := .slice qj L1[j].length mj) rfl (by kernel_rfl) (by kernel_rfl) (by kernel_rfl) (fun _ _ _ h => h) (Or.inl ⟨by rfl, ?_⟩) hHeld ?_
                · intro w' hSw; have kx := hcj w' (HBo.out.trans (hSw.mono HBo.out.size)); go_simp
                try simp only [Act.put, List.getElem_toArray, List.getElem_cons_succ, List.getElem_cons_zero, List.setIfInBounds_toArray, List.set_cons_zero, List.set_cons_succ]
                refine wpAnyH_take (i := 6) (v := .pointer (some ⟨b8, 1, none⟩)) rfl (by kernel_rfl) (by kernel_rfl) (by kernel_rfl) (fun _ _ _ h => h) (Or.inl ⟨by rfl, ?_⟩) hHeld ?_
                · intro w' hSw; go_simp
                try simp only [Act.put, List.getElem_toArray, List.getElem_cons_succ, List.getElem_cons_zero, List.setIfInBounds_toArray, List.set_cons_zero, List.set_cons_succ]
                refine wpAnyH_take (i := 7) (v := .slice (some ⟨bx, ox, none⟩) L1.length q105) rfl (by kernel_rfl) (by kernel_rfl) (by kernel_rfl) (fun _ _ _ h => h) (Or.inl ⟨by rfl, ?_⟩) hHeld ?_
                · intro w' hSw; obtain ⟨z0, z1⟩ := (Hbw.out.below hSw Hbw.out.lt).cells.c2; simp only [Nat.zero_add] at z1; go_simp
                try simp only [Act.put, List.getElem_toArray, List.getElem_cons_succ, List.getElem_cons_zero, List.setIfInBounds_toArray, List.set_cons_zero, List.set_cons_succ]
                refine wpAnyH_take (i := 8) (v := .int .i64 ((i : Int))) rfl (by kernel_rfl) (by kernel_rfl) (by kernel_rfl) (fun _ _ _ h => h) (Or.inl ⟨by rfl, ?_⟩) hHeld ?_
                · intro w' hSw; go_simp
                try simp only [Act.put, List.getElem_toArray, List.getElem_cons_succ, List.getElem_cons_zero, List.setIfInBounds_toArray, List.set_cons_zero, List.set_cons_succ]
                refine wpAnyH_take (i := 9) (v := .pointer (some ⟨bx, ox + i, none⟩)) rfl (by kernel_rfl) (by kernel_rfl) (by kernel_rfl) (fun _ _ _ h => h) (Or.inl ⟨by rfl, ?_⟩) hHeld ?_
                · intro w' hSw; go_simp
                try simp only [Act.put, List.getElem_toArray, List.getElem_cons_succ, List.getElem_cons_zero, List.setIfInBounds_toArray, List.set_cons_zero, List.set_cons_succ]
                refine wpAnyH_take (i := 10) (v := .slice qi L1[i].length mi) rfl (by kernel_rfl) (by kernel_rfl) (by kernel_rfl) (fun _ _ _ h => h) (Or.inl ⟨by rfl, ?_⟩) hHeld ?_
                · intro w' hSw; have kx := hci w' (HBo.out.trans (hSw.mono HBo.out.size)); go_simp
                try simp only [Act.put, List.getElem_toArray, List.getElem_cons_succ, List.getElem_cons_zero, List.setIfInBounds_toArray, List.set_cons_zero, List.set_cons_succ]
                refine wpAnyH_ready (rs := [11]) (by kernel_rfl) (by simp) ?_
                refine allCall (f := 24) (args := #[.slice qj L1[j].length mj, .slice qi L1[i].length mi]) rfl (by kernel_rfl) (by kernel_rfl) ?_ AllReadyH.nil
                have hzz := hHeld.size
                refine rowsCompareB_any 0 wo2.heap.size 0 wo2.heap.size L1[j] L1[i] _ _ wd (Sl.below Hrj.out Row1.loc hHeld HBo.out.size) (Sl.below Hri.out Row1.loc hHeld HBo.out.size) (Nat.le_trans HBo.out.size hzz) (Nat.le_trans HBo.out.size hzz) _ (fun w8 hB8 => ?_)
                rw [Hup2.out]
                refine ⟨_, rfl, hHeld.trans (hB8.mono hzz), ?_⟩
                have hHeld2 := hHeld.trans (hB8.mono hzz)
                clear hHeld
                have hHeld := hHeld2
                clear hHeld2 hB8 hzz
                try simp only [Act.put, List.getElem_toArray, List.getElem_cons_succ, List.getElem_cons_zero, List.setIfInBounds_toArray, List.set_cons_zero, List.set_cons_succ]
                refine wpAnyH_take (i := 12) (v := .bool false) rfl (by kernel_rfl) (by kernel_rfl) (by kernel_rfl) (fun _ _ _ h => h) (Or.inl ⟨by rfl, ?_⟩) hHeld ?_
                · intro w' hSw; go_simp
                try simp only [Act.put, List.getElem_toArray, List.getElem_cons_succ, List.getElem_cons_zero, List.setIfInBounds_toArray, List.set_cons_zero, List.set_cons_succ]
                refine wpAnyH_done (by kernel_rfl) ?_ _
                have Hb3 := Lib.hid (HBo.out.trans (hHeld.mono HBo.out.size))
                clear hHeld c0 c1 hij
                go_wp2_with fail
                go_roundw
                case rel => exact ⟨i + 1, by omega, by omega, by go_num, Hb3.out⟩
                case measure => simp [intOf]; omega
              · have kkl : ¬ (i : Int) < (L1.length : Int) := by omega
                have hle : (L1.length : Int) ≤ (l.length : Int) := by have := Hl1.out; omega
                have hr := HR.out wo3 (HB.out.trans (HBo.out.mono HB.out.size))
                go_wp2_with fail
                first | exact hr | exact fin hr rfl
      · have g0 : (er == 0) = false := by simp [he0]
        have g1 : (er != er) = false := by simp
        have Her := Lib.hid her
        have Herb := Lib.hid (herb.trans her)
        have Hco : Hid (okL er cols = []) := Lib.hid (okL_no he0 _)
        have Hco2 : Hid (okL er cols = []) := Lib.hid (okL_no he0 _)
        have Hlo : Hid (okL er (relCanon l) = []) := Lib.hid (okL_no he0 _)
        have Hlo2 : Hid (okL er (relCanon bk) = []) := Lib.hid (okL_no he0 _)
        have Hst : Hid (∀ x ∈ ([] : List (List V)), ∀ a ∈ x, a.s.length ≤ 9223372036854775807) := Lib.hid (fun x hx => by cases hx)
        clear her herb hrb he0
        go_wp2_with fail
        refine Of_K Hc.out Hl.out (by omega) (fun x hx => by have := Hxl.out x hx; omega) (e := er) (co := []) (lo := []) Her.out Hco.out Hlo.out _ (fun wc201 v hB hV => ?_)
        obtain ⟨p202, q203, p204, q205, rfl, hV⟩ := hV
        replace HB := Lib.hid (HB.out.trans (hB.mono HB.out.size))
        replace Hc := Lib.hid (Pd.step Hc.out hB)
        replace Hl := Lib.hid (Pd.step Hl.out hB)
        replace Hbk2 := Lib.hid (Pd.step Hbk2.out hB)
        have Hrel206 := Lib.hid (show (Pd.rel _ _).says _ _ from ⟨_, _, _, _, rfl, hV⟩)
        clear hB hV
        go_upto_region 10 with fail
        have hb := RelH.box (n := wc201.heap.size) (relH Hrel206.out) rfl
        have hB := alloc_below wc201 (.cells #[.slice p202 0 q203, .slice p204 0 q205] 34)
        try simp only [List.length_cons, List.length_nil, Nat.zero_add, Nat.reduceAdd] at hb
        generalize wc201.alloc (.cells #[.slice p202 0 q203, .slice p204 0 q205] 34) = w207 at *
        obtain ⟨b8, eb8⟩ : ∃ b, b = wc201.heap.size := ⟨_, rfl⟩
        rw [← eb8] at hb ⊢
        clear eb8
        replace HB := Lib.hid (HB.out.trans (hB.mono HB.out.size))
        replace Hc := Lib.hid (Pd.step Hc.out hB)
        replace Hl := Lib.hid (Pd.step Hl.out hB)
        replace Hbk2 := Lib.hid (Pd.step Hbk2.out hB)
        replace Hrel206 := Lib.hid (Pd.step Hrel206.out hB)
        have Ha := Lib.hid (hb)
        clear hB hb
        clear Hrel206
        go_wp2_with fail
        refine Of_K Hc.out Hbk2.out (by have := Hbl.out; omega) (fun x hx => by have := Hxl.out x (Hbm.out x hx); omega) (e := er) (co := []) (lo := []) Herb.out Hco2.out Hlo2.out _ (fun wc208 v hB hV => ?_)
        obtain ⟨p209, q210, p211, q212, rfl, hV⟩ := hV
        replace HB := Lib.hid (HB.out.trans (hB.mono HB.out.size))
        replace Hc := Lib.hid (Pd.step Hc.out hB)
        replace Hl := Lib.hid (Pd.step Hl.out hB)
        replace Hbk2 := Lib.hid (Pd.step Hbk2.out hB)
        replace Ha := Lib.hid (Ha.out.below hB)
        have Hrel213 := Lib.hid (show (Pd.rel _ _).says _ _ from ⟨_, _, _, _, rfl, hV⟩)
        clear hB hV
        go_upto_region 11 with fail
        have hb := RelH.box (n := wc208.heap.size) (relH Hrel213.out) rfl
        have hB := alloc_below wc208 (.cells #[.slice p209 0 q210, .slice p211 0 q212] 34)
        try simp only [List.length_cons, List.length_nil, Nat.zero_add, Nat.reduceAdd] at hb
        generalize wc208.alloc (.cells #[.slice p209 0 q210, .slice p211 0 q212] 34) = w214 at *
        obtain ⟨b10, eb10⟩ : ∃ b, b = wc208.heap.size := ⟨_, rfl⟩
        rw [← eb10] at hb ⊢
        clear eb10
        replace HB := Lib.hid (HB.out.trans (hB.mono HB.out.size))
        replace Hc := Lib.hid (Pd.step Hc.out hB)
        replace Hl := Lib.hid (Pd.step Hl.out hB)
        replace Hbk2 := Lib.hid (Pd.step Hbk2.out hB)
        replace Ha := Lib.hid (Ha.out.below hB)
        replace Hrel213 := Lib.hid (Pd.step Hrel213.out hB)
        have Hb := Lib.hid (hb)
        clear hB hb
        clear Hrel213
        obtain ⟨c0, c1⟩ := Ha.out.blk.cells.c2
        simp only [Nat.zero_add] at c1
        obtain ⟨d0, d1⟩ := Hb.out.blk.cells.c2
        simp only [Nat.zero_add] at d1
        go_wp2_with fail
        refine Same_K Ha.out.rel Hb.out.rel rfl rfl Hst.out _ (fun wc215 hB => ?_)
        replace HB := Lib.hid (HB.out.trans (hB.mono HB.out.size))
        replace Hc := Lib.hid (Pd.step Hc.out hB)
        replace Hl := Lib.hid (Pd.step Hl.out hB)
        replace Hbk2 := Lib.hid (Pd.step Hbk2.out hB)
        replace Ha := Lib.hid (Ha.out.below hB)
        replace Hb := Lib.hid (Hb.out.below hB)
        clear hB c0 c1 d0 d1
        clear Hb Hbk2
        go_wp2_with fail
        go_loopw [69] (fun t69 wr => ∃ k : Nat, k ≤ l.length ∧ t69 = .int .i64 k ∧ Below wc215.heap.size wc215 wr) (fun t69 _ => l.length - (intOf t69).toNat)
        case atStart => exact ⟨0, Nat.zero_le _, rfl, Below.refl _ _⟩
        case round =>
          obtain ⟨k, hk, rfl, hB⟩ := hrel
          obtain ⟨wo2, ewo⟩ : ∃ x, x = wr := ⟨_, rfl⟩
          subst ewo
          have HBo := Lib.hid hB
          clear hB
          have kk0 : (0 : Int) ≤ (k : Int) := by omega
          by_cases hlt : k < l.length
          · have kkl : (k : Int) < (l.length : Int) := by omega
            go_upto_region 16 with fail
            have hS0 : Below wo2.heap.size wo2 wo2.drew := (Below.refl _ _).drew
            refine wp_region_held_drew (S := fun w' => Below wo2.heap.size wo2 w') (by kernel_rfl) hS0 (fun hHeld => ?_)
            clear hS0
            generalize wo2.drew = wd at *
            refine wpAnyH_take (i := 0) (v := .int .i64 er) rfl (by kernel_rfl) (by kernel_rfl) (by kernel_rfl) (fun _ _ _ h => h) (Or.inl ⟨by rfl, ?_⟩) hHeld ?_
            · intro w' hSw; go_simp
            try simp only [Act.put, List.getElem_toArray, List.getElem_cons_succ, List.getElem_cons_zero, List.setIfInBounds_toArray, List.set_cons_zero, List.set_cons_succ]
            refine wpAnyH_take (i := 1) (v := .bool false) rfl (by kernel_rfl) (by kernel_rfl) (by kernel_rfl) (fun _ _ _ h => h) (Or.inl ⟨by rfl, ?_⟩) hHeld ?_
            · intro w' hSw; go_simp
            try simp only [Act.put, List.getElem_toArray, List.getElem_cons_succ, List.getElem_cons_zero, List.setIfInBounds_toArray, List.set_cons_zero, List.set_cons_succ]
            refine wpAnyH_take (i := 2) (v := .bool false) rfl (by kernel_rfl) (by kernel_rfl) (by kernel_rfl) (fun _ _ _ h => h) (Or.inl ⟨by rfl, ?_⟩) hHeld ?_
            · intro w' hSw; go_simp
            try simp only [Act.put, List.getElem_toArray, List.getElem_cons_succ, List.getElem_cons_zero, List.setIfInBounds_toArray, List.set_cons_zero, List.set_cons_succ]
            refine wpAnyH_take (i := 3) (v := undef) rfl (by kernel_rfl) (by kernel_rfl) (by kernel_rfl) (fun _ _ _ h => h) (Or.inr ⟨by kernel_rfl, rfl⟩) hHeld ?_
            try simp only [Act.put, List.getElem_toArray, List.getElem_cons_succ, List.getElem_cons_zero, List.setIfInBounds_toArray, List.set_cons_zero, List.set_cons_succ]
            refine wpAnyH_take (i := 4) (v := undef) rfl (by kernel_rfl) (by kernel_rfl) (by kernel_rfl) (fun _ _ _ h => h) (Or.inr ⟨by kernel_rfl, rfl⟩) hHeld ?_
            try simp only [Act.put, List.getElem_toArray, List.getElem_cons_succ, List.getElem_cons_zero, List.setIfInBounds_toArray, List.set_cons_zero, List.set_cons_succ]
            refine wpAnyH_take (i := 5) (v := undef) rfl (by kernel_rfl) (by kernel_rfl) (by kernel_rfl) (fun _ _ _ h => h) (Or.inr ⟨by kernel_rfl, rfl⟩) hHeld ?_
            try simp only [Act.put, List.getElem_toArray, List.getElem_cons_succ, List.getElem_cons_zero, List.setIfInBounds_toArray, List.set_cons_zero, List.set_cons_succ]
            refine wpAnyH_take (i := 6) (v := undef) rfl (by kernel_rfl) (by kernel_rfl) (by kernel_rfl) (fun _ _ _ h => h) (Or.inr ⟨by kernel_rfl, rfl⟩) hHeld ?_
            try simp only [Act.put, List.getElem_toArray, List.getElem_cons_succ, List.getElem_cons_zero, List.setIfInBounds_toArray, List.set_cons_zero, List.set_cons_succ]
            refine wpAnyH_take (i := 7) (v := undef) rfl (by kernel_rfl) (by kernel_rfl) (by kernel_rfl) (fun _ _ _ h => h) (Or.inr ⟨by kernel_rfl, rfl⟩) hHeld ?_
            try simp only [Act.put, List.getElem_toArray, List.getElem_cons_succ, List.getElem_cons_zero, List.setIfInBounds_toArray, List.set_cons_zero, List.set_cons_succ]
            refine wpAnyH_take (i := 8) (v := undef) rfl (by kernel_rfl) (by kernel_rfl) (by kernel_rfl) (fun _ _ _ h => h) (Or.inr ⟨by kernel_rfl, rfl⟩) hHeld ?_
            try simp only [Act.put, List.getElem_toArray, List.getElem_cons_succ, List.getElem_cons_zero, List.setIfInBounds_toArray, List.set_cons_zero, List.set_cons_succ]
            refine wpAnyH_take (i := 9) (v := undef) rfl (by kernel_rfl) (by kernel_rfl) (by kernel_rfl) (fun _ _ _ h => h) (Or.inr ⟨by kernel_rfl, rfl⟩) hHeld ?_
            try simp only [Act.put, List.getElem_toArray, List.getElem_cons_succ, List.getElem_cons_zero, List.setIfInBounds_toArray, List.set_cons_zero, List.set_cons_succ]
            refine wpAnyH_take (i := 10) (v := .bool false) rfl (by kernel_rfl) (by kernel_rfl) (by kernel_rfl) (fun _ _ _ h => h) (Or.inl ⟨by rfl, ?_⟩) hHeld ?_
            · intro w' hSw; go_simp
            try simp only [Act.put, List.getElem_toArray, List.getElem_cons_succ, List.getElem_cons_zero, List.setIfInBounds_toArray, List.set_cons_zero, List.set_cons_succ]
            refine wpAnyH_done (by kernel_rfl) ?_ _
            have Hb3 := Lib.hid (HBo.out.trans (hHeld.mono HBo.out.size))
            clear hHeld
            go_wp2_with fail
            go_roundw
            case rel => exact ⟨k + 1, by omega, by go_num, Hb3.out⟩
            case measure => simp [intOf]; omega
          · obtain rfl : k = l.length := by omega
            have hB := HBo.out
            replace HB := Lib.hid (HB.out.trans (hB.mono HB.out.size))
            replace Hc := Lib.hid (Pd.step Hc.out hB)
            replace Hl := Lib.hid (Pd.step Hl.out hB)
            replace Ha := Lib.hid (Ha.out.below hB)
            clear hB HBo
            obtain ⟨c0, c1⟩ := Ha.out.blk.cells.c2
            simp only [Nat.zero_add] at c1
            go_wp2_with fail
            clear c0 c1
            go_loopw [13] (fun t13 wr => t13 = .int .i64 1 ∧ wr = wo2) (fun _ _ => 0)
            case atStart => exact ⟨rfl, rfl⟩
            case round =>
              obtain ⟨rfl, rfl⟩ := hrel
              obtain ⟨c0, c1⟩ := Ha.out.blk.cells.c2
              simp only [Nat.zero_add] at c1
              try simp only [List.length_nil] at c1
              have hr := HR.out _ HB.out
              go_wp2_with fail
              first | exact hr | exact fin hr rfl
    · obtain ⟨n, rfl⟩ : ∃ n, j = n + 1 := ⟨j - 1, by omega⟩
      have en : (((n + 1 : Nat) : Int) - 1) = (n : Int) := by omega
      rw [en] at ht7
      subst ht7
      have hnl : n < l.length := by omega
      have kk0 : (0 : Int) ≤ (n : Int) := by omega
      have kkl : (n : Int) < (l.length : Int) := by omega
      obtain ⟨bl, ol, rfl, hbl, hat⟩ := Rws.at Hl.out (Nat.le_refl _) (by omega)
      obtain ⟨q2, m2, hcell, hrow⟩ := hat n hnl
      have hrow' := Sl.below hrow Row1.loc HBo.out (Nat.le_refl _)
      have Hst : Hid ((l.drop n).reverse.flatMap (fun x => [x, x]) = (l.drop (n + 1)).reverse.flatMap (fun x => [x, x]) ++ [l[n], l[n]]) := Lib.hid (back_step l n hnl)
      have Hrow := Lib.hid hrow'
      clear hat hrow hrow' en hj0 hj
      generalize (l.drop (n + 1)).reverse.flatMap (fun x => [x, x]) = xs at *
      go_upto_region 8 with fail
      have hS0 : Below wc1.heap.size wo wo.drew := (Below.refl _ _).drew
      have hO0 := LS.same Hls.out (w' := wo.drew) (fun _ _ => rfl) (Agree.refl _ _ _)
      have hR0 := Hrow.out.agree Row1.loc (w' := wo.drew) (Agree.refl _ _ _)
      have hz0 : wc1.heap.size ≤ wo.drew.heap.size := hzo
      refine wp_region_held_drew (S := fun w' => Below wc1.heap.size wo w') (by kernel_rfl) hS0 (fun hHeld => ?_)
      clear hS0
      generalize wo.drew = wd at *
      refine wpAnyH_take (i := 0) (v := .slice p6 xs.length c6) rfl (by kernel_rfl) (by kernel_rfl) (by kernel_rfl) (fun _ _ _ h => h) (Or.inl ⟨by rfl, ?_⟩) hHeld ?_
      · intro w' hSw; go_simp
      try simp only [Act.put, List.getElem_toArray, List.getElem_cons_succ, List.getElem_cons_zero, List.setIfInBounds_toArray, List.set_cons_zero, List.set_cons_succ]
      refine wpAnyH_take (i := 1) (v := .slice (some ⟨bl, ol, none⟩) l.length ql) rfl (by kernel_rfl) (by kernel_rfl) (by kernel_rfl) (fun _ _ _ h => h) (Or.inl ⟨by rfl, ?_⟩) hHeld ?_
      · intro w' hSw; go_simp
      try simp only [Act.put, List.getElem_toArray, List.getElem_cons_succ, List.getElem_cons_zero, List.setIfInBounds_toArray, List.set_cons_zero, List.set_cons_succ]
      refine wpAnyH_take (i := 2) (v := .int .i64 ((n : Int))) rfl (by kernel_rfl) (by kernel_rfl) (by kernel_rfl) (fun _ _ _ h => h) (Or.inl ⟨by rfl, ?_⟩) hHeld ?_
      · intro w' hSw; go_simp
      try simp only [Act.put, List.getElem_toArray, List.getElem_cons_succ, List.getElem_cons_zero, List.setIfInBounds_toArray, List.set_cons_zero, List.set_cons_succ]
      refine wpAnyH_take (i := 3) (v := .pointer (some ⟨bl, ol + n, none⟩)) rfl (by kernel_rfl) (by kernel_rfl) (by kernel_rfl) (fun _ _ _ h => h) (Or.inl ⟨by rfl, ?_⟩) hHeld ?_
      · intro w' hSw; go_simp
      try simp only [Act.put, List.getElem_toArray, List.getElem_cons_succ, List.getElem_cons_zero, List.setIfInBounds_toArray, List.set_cons_zero, List.set_cons_succ]
      refine wpAnyH_take (i := 4) (v := .slice q2 l[n].length m2) rfl (by kernel_rfl) (by kernel_rfl) (by kernel_rfl) (fun _ _ _ h => h) (Or.inl ⟨by rfl, ?_⟩) hHeld ?_
      · intro w' hSw; have kx := hcell w' (HBo.out.trans hSw); go_simp
      try simp only [Act.put, List.getElem_toArray, List.getElem_cons_succ, List.getElem_cons_zero, List.setIfInBounds_toArray, List.set_cons_zero, List.set_cons_succ]
      refine wpAnyH_take (i := 5) (v := .slice (some ⟨bl, ol, none⟩) l.length ql) rfl (by kernel_rfl) (by kernel_rfl) (by kernel_rfl) (fun _ _ _ h => h) (Or.inl ⟨by rfl, ?_⟩) hHeld ?_
      · intro w' hSw; go_simp
      try simp only [Act.put, List.getElem_toArray, List.getElem_cons_succ, List.getElem_cons_zero, List.setIfInBounds_toArray, List.set_cons_zero, List.set_cons_succ]
      refine wpAnyH_take (i := 6) (v := .int .i64 ((n : Int))) rfl (by kernel_rfl) (by kernel_rfl) (by kernel_rfl) (fun _ _ _ h => h) (Or.inl ⟨by rfl, ?_⟩) hHeld ?_
      · intro w' hSw; go_simp
      try simp only [Act.put, List.getElem_toArray, List.getElem_cons_succ, List.getElem_cons_zero, List.setIfInBounds_toArray, List.set_cons_zero, List.set_cons_succ]
      refine wpAnyH_take (i := 7) (v := .pointer (some ⟨bl, ol + n, none⟩)) rfl (by kernel_rfl) (by kernel_rfl) (by kernel_rfl) (fun _ _ _ h => h) (Or.inl ⟨by rfl, ?_⟩) hHeld ?_
      · intro w' hSw; go_simp
      try simp only [Act.put, List.getElem_toArray, List.getElem_cons_succ, List.getElem_cons_zero, List.setIfInBounds_toArray, List.set_cons_zero, List.set_cons_succ]
      refine wpAnyH_take (i := 8) (v := .slice q2 l[n].length m2) rfl (by kernel_rfl) (by kernel_rfl) (by kernel_rfl) (fun _ _ _ h => h) (Or.inl ⟨by rfl, ?_⟩) hHeld ?_
      · intro w' hSw; have kx := hcell w' (HBo.out.trans hSw); go_simp
      try simp only [Act.put, List.getElem_toArray, List.getElem_cons_succ, List.getElem_cons_zero, List.setIfInBounds_toArray, List.set_cons_zero, List.set_cons_succ]
      obtain ⟨v3, w3, hr3, ho3, ha3⟩ := LS.snoc2 hO0 (Nat.le_refl _) q2 m2 l[n] hR0 rfl (by have := Hlen.out; omega) hz0
      have hBq := ha3.below (B := wc1.heap.size) hz0 (fun q e => (LS.lt hO0 q e).1)
      have hS2 := hHeld.trans ((alloc_below wd (.cells #[.slice q2 l[n].length m2, .slice q2 l[n].length m2] 42)).mono hz0)
      have hS3 := hHeld.trans hBq
      obtain ⟨p7, c7, e7⟩ := LS.slice ho3
      have hn7 : (xs ++ [l[n], l[n]]).length = xs.length + 2 := by rw [List.length_append]; rfl
      subst e7
      refine wpAnyH_ready (rs := [9]) (by kernel_rfl) (by simp) ?_
      refine allVal (v := .slice (some ⟨wd.heap.size, 0, none⟩) 2 2) (w' := wd.alloc (.cells #[.slice q2 l[n].length m2, .slice q2 l[n].length m2] 42)) rfl (by kernel_rfl) (by go_simp) hS2 ?_ AllReadyH.nil
      try simp only [Act.put, List.getElem_toArray, List.getElem_cons_succ, List.getElem_cons_zero, List.setIfInBounds_toArray, List.set_cons_zero, List.set_cons_succ]
      refine wpAnyH_ready (rs := [10]) (by kernel_rfl) (by simp) ?_
      refine allVal rfl (by kernel_rfl) (execApp hr3 rfl (by kernel_rfl) (by kernel_rfl)) hS3 ?_ AllReadyH.nil
      try simp only [Act.put, List.getElem_toArray, List.getElem_cons_succ, List.getElem_cons_zero, List.setIfInBounds_toArray, List.set_cons_zero, List.set_cons_succ]
      clear hHeld
      have hHeld := hS3
      refine wpAnyH_take (i := 11) (v := .slice p7 (xs ++ [l[n], l[n]]).length c7) rfl (by kernel_rfl) (by kernel_rfl) (by kernel_rfl) (fun _ _ _ h => h) (Or.inl ⟨by rfl, ?_⟩) hHeld ?_
      · intro w' hSw; go_simp
      try simp only [Act.put, List.getElem_toArray, List.getElem_cons_succ, List.getElem_cons_zero, List.setIfInBounds_toArray, List.set_cons_zero, List.set_cons_succ]
      refine wpAnyH_done (by kernel_rfl) ?_ _
      have Ho3 := Lib.hid ho3
      have Hb3 := Lib.hid (HBo.out.trans (hHeld.mono (Nat.le_refl _)))
      clear hHeld hS2 hS3 hBq ha3 ho3 hr3 hn7 hO0 hR0 hz0
      go_wp2_with fail
      go_roundw
      case rel => exact ⟨n, by omega, rfl, by rw [Hst.out]; exact Ho3.out, Hb3.out⟩
      case measure => simp [intOf]
end Go.Proofs.Ytpncblagjkbemaa
end

/- The walk of RowsTurned, of columns and rows as arguments lay them. -/
section
set_option linter.unusedVariables false
set_option linter.unusedSimpArgs false
namespace Go.Proofs.Ytpncblagjkbemaa
open Go.RowKit
theorem RowsTurned_arg (cols : List S) (l : List (List V)) (cv lv : Value) (w : World) (h1 : Strs 0 w.heap.size w cv cols) (h2 : Rws 0 w.heap.size w lv l) (hrs : ∀ x ∈ l, rowOk x) (R : Ending → World → Prop)
    (hR : ∀ w', Below w.heap.size w w' → R (.returned (.bool true)) w') : Calls Try.prog 8 #[cv, lv] w R := by
  obtain ⟨p1, q1, rfl, -, -, -, -⟩ := h1.form
  obtain ⟨p2, q2, rfl, -, -, -, -⟩ := h2.form
  exact RowsTurned_any w h1 h2 (fun x hx a ha => hrs x hx a ha) R hR
end Go.Proofs.Ytpncblagjkbemaa
end

/- RowsTurned holds outright: for any columns and rows the call returns true, and the arguments read behind it as before. No condition. -/
section
set_option linter.unusedVariables false
set_option linter.unusedSimpArgs false
namespace Go.Proofs.Ytpncblagjkbemaa.rowsTurned
open Go.ChangeShapes Go.WideShapes Go.ChangeAt Go.RowKit
open Go.ChangeMaps (open_string shut_string)
set_option linter.unusedVariables false

set_option maxRecDepth 100000 in
theorem contract (H : Type) (enc : TypeId × Value → H) (W : World) (base : Nat) (args : Array Value) (ds gs : List (DataW H)) (before : List MemPlace)
    (hval : ∀ (j : Nat) t v, Try.f8.params[j]? = some t → args[j]? = some v → Value.okWide Try.prog W .any base t v)
    (hW : DataW.Whole enc Try.prog Try.f8.params.toList Rows.rowsTurnedSpec.vars false W args.toList ds gs before) :
    Calls Try.prog 8 args W fun e W' => ∃ v, e = .returned v ∧ Rows.rowsTurnedSpec.post enc Try.prog Try.f8 false true false false W args v W' := by
  have hW' := hW
  obtain ⟨p, q, hA0, hV, rfl, hfz, hnd⟩ := hW
  have hA : DataW.TrodAll enc Try.prog W 0 (fun _ => true) true Try.f8.params.toList args.toList ds p := hA0
  rw [Try.params8] at hA hval
  have hAk := hA
  obtain ⟨v0, vs0, d0, ds0, p0, q0, hargs, rfl, rfl, h0, r0⟩ := trodAll_cons hA
  obtain ⟨v1, vs1, d1, ds1, p1, q1, rfl, rfl, rfl, h1, r1⟩ := trodAll_cons r0
  obtain ⟨rfl, rfl, rfl⟩ := trodAll_nil r1
  obtain rfl : args = #[v0, v1] := by cases args; simp_all
  obtain ⟨rfl, rfl⟩ := trodVars_none hV
  obtain ⟨a0, len0, cap0, rfl⟩ := okWide_slice Try.underlying31 (hval 0 31 v0 rfl rfl)
  obtain ⟨n0, h0⟩ := h0
  obtain ⟨x0, s0, o0⟩ := open_sl (α := S) (E := flat strE) (ok := colOk) Try.underlying31 (size := 1) (by kernel_rfl) (by decide) el_col (by simpa [Value.cells] using h0)
  obtain ⟨a1, len1, cap1, rfl⟩ := okWide_slice Try.underlying32 (hval 1 32 v1 rfl rfl)
  obtain ⟨n1, h1⟩ := h1
  obtain ⟨x1, s1, o1⟩ := open_sl (α := List V) (E := rowE) (ok := rowOk) Try.underlying32 (size := 1) (by kernel_rfl) (by decide) el_row (by simpa [Value.cells] using h1)
  clear hA0
  refine RowsTurned_arg x0 x1 _ _ W s0 s1 (fun x hx => o1 x hx) _ fun W' bel => ?_
  exact ⟨_, rfl, _, _, _, [], _, [], hW', trodAll_mk1 (shut_bool Try.underlying4 _), trodAll_below laidOut bel _ _ _ _ (by kernel_rfl) hAk, rfl, bel.frame _, fun h => by cases h⟩

set_option maxRecDepth 100000 in
theorem lifted (os : Os) (started : os.Started) (H : Type) (enc : TypeId × Value → H) :
    ReturnsInHanded {} Try.checked os 8 .any (Rows.rowsTurnedSpec.pre6 enc Try.prog Try.f8 Rows.rowsTurnedRow.domain false) (Rows.rowsTurnedSpec.post enc Try.prog Try.f8 false true false false) := by
  refine returnsInHanded_of_change (C := Try.checked) own started (by kernel_rfl) Try.func8
    (ChangeSpec.witness6 (enc := enc) (C := Try.checked) false ⟨#[], #[.slice none 0 0, .slice none 0 0], []⟩ 8 (by kernel_rfl) (by kernel_rfl) (by kernel_rfl) (by kernel_rfl)) ?_
  intro W base args ds gs before hval hW _ _
  exact contract H enc W base args ds gs before hval hW

theorem over : Rows.rowsTurnedRow.holds Try.pinned (OpenSpec.ofChange Rows.rowsTurnedSpec) :=
  OpenClaim.holds_of_wide 8 Try.f8 rfl rfl rfl rfl rfl rfl rfl ⟨rfl, rfl, rfl, rfl, rfl⟩ rfl rfl rfl rfl rfl (by kernel_rfl) Try.func8 (by kernel_rfl)
    (of_decide_eq_true (by kernel_rfl)) (by unfold Func.isWrapper; first | (rw [if_pos (by decide +kernel)]; kernel_rfl) | (rw [if_neg (by decide +kernel)]; exact ⟨rfl, rfl⟩))
    (fun os started H enc _ => lifted os started H enc)

theorem proved : Rows.RowsTurnedSaid := over
end Go.Proofs.Ytpncblagjkbemaa.rowsTurned
end
