/- FoldTells holds outright: for any relation, columns and tellings the call returns true, and the arguments read behind it as before. No condition. -/
import Derived.Sort.CutIn
import Derived.Test.YtmconajkgjfplaaGreatKFoldTells6
/- The law FoldGroups, walked. (Printed by fldn.py.) -/
section
set_option linter.unusedVariables false
set_option linter.unusedSimpArgs false
namespace Go.Proofs.YtmconajkgjfplaaGreat
open Go.RowKit
set_option linter.unusedVariables false
set_option linter.unusedSimpArgs false
attribute [local go_sem ↓] Go.wp_at_zero Go.wp_at_succ
def great16B (cols : List S) (l : List (List V)) (nb : Nat) : Bool := decide (40 < cols.length) || decide (100 < l.length) || decide (40 < nb) || l.any fun x => decide (40 < x.length)
theorem great16_no {cols : List S} {l : List (List V)} {nb : Nat} (h : great16B cols l nb = false) : cols.length ≤ 40 ∧ l.length ≤ 100 ∧ nb ≤ 40 ∧ ∀ x ∈ l, x.length ≤ 40 := by
  unfold great16B at h
  simp only [Bool.or_eq_false_iff, decide_eq_false_iff_not, List.any_eq_false, decide_eq_true_eq] at h
  exact ⟨by omega, by omega, by omega, fun x hx => by have := h.2 x hx; omega⟩
set_option maxRecDepth 100000 in
set_option maxHeartbeats 4000000 in
theorem great16_any (lo hi : Nat) (cols : List S) (ac : Option Addr) (cc : Nat) (l : List (List V)) (lv : Value) (ak : Option Addr) (nb ck : Nat) (w : World) (hv : Rws lo hi w lv l) (hhi : hi ≤ w.heap.size) (hcl : cols.length ≤ 9223372036854775807) (hnb : nb ≤ 9223372036854775807) (R : Ending → World → Prop)
    (hR : ∀ w', Below w.heap.size w w' → R (.returned (.bool (great16B cols l nb))) w') :
    Calls Tryz.prog 6 #[.agg #[.slice ac cols.length cc, lv], .slice ak nb ck] w R := by
  have HR := Lib.hid hR
  have Hv := Lib.hid hv
  obtain ⟨av, cv, rfl, -, hcm, -, -⟩ := hv.form
  clear hR hv
  have hll := Hv.out.len
  obtain ⟨q, hq⟩ : ∃ q, q = cols.length := ⟨_, rfl⟩
  rw [← hq] at hcl ⊢
  have Hq := Lib.hid hq
  clear hq
  go_enter Tryz.func6, Tryz.ntmps6
  go_upto_region 1 with fail
  have hBa := alloc_below w (.cells #[.slice ac q cc, .slice av l.length cv] 25)
  have hba := Blk.new w [.slice ac q cc, .slice av l.length cv] 25 rfl
  generalize w.alloc (.cells #[.slice ac q cc, .slice av l.length cv] 25) = w1 at *
  have HB := Lib.hid hBa
  have Hv1 := Lib.hid (Sl.below Hv.out rowE_loc hBa hhi)
  obtain ⟨av', cv', e', -, -, -, hc⟩ := Hv1.out.form
  injection e' with e1 e2 e3
  subst e1 e3
  have Hc := Lib.hid hc
  obtain ⟨c0, c1⟩ := hba.cells.c2
  simp only [Nat.zero_add] at c1
  clear hc hBa hba e2
  by_cases h1 : 40 < q
  · have c1 : (40 : Int) < (q : Int) := by omega
    have hr := HR.out _ HB.out
    have e : great16B cols l nb = true := by unfold great16B; rw [decide_eq_true (by rw [← Hq.out]; exact h1)]; rfl
    rw [e] at hr
    clear e
    go_wp2_with fail
    first | exact hr | exact fin hr rfl
  · have c2 : ¬ (40 : Int) < (q : Int) := by omega
    by_cases h2 : 100 < l.length
    · have c3 : (100 : Int) < (l.length : Int) := by omega
      have hr := HR.out _ HB.out
      have e : great16B cols l nb = true := by unfold great16B; rw [decide_eq_true h2]; simp
      rw [e] at hr
      clear e
      go_wp2_with fail
      first | exact hr | exact fin hr rfl
    · have c3 : ¬ (100 : Int) < (l.length : Int) := by omega
      by_cases h3 : 40 < nb
      · have c4 : (40 : Int) < (nb : Int) := by omega
        have hr := HR.out _ HB.out
        have e : great16B cols l nb = true := by unfold great16B; rw [decide_eq_true h3]; simp
        rw [e] at hr
        clear e
        go_wp2_with fail
        first | exact hr | exact fin hr rfl
      have c4 : ¬ (40 : Int) < (nb : Int) := by omega
      have Hcl : Hid (decide (40 < cols.length) = false) := Lib.hid (decide_eq_false (by rw [← Hq.out]; exact h1))
      clear h1
      go_wp2_with fail
      go_loop [24] (fun t24 => ∃ k : Nat, k ≤ l.length ∧ t24 = .int .i64 k ∧ ∀ i, i < k → (l.getD i []).length ≤ 40) (fun t24 => l.length - (intOf t24).toNat)
      case atStart => exact ⟨0, Nat.zero_le _, rfl, fun i h => absurd h (Nat.not_lt_zero _)⟩
      case round =>
        obtain ⟨k, hk, rfl, hno⟩ := hrel
        have Hno := Lib.hid hno
        clear hno
        have kk0 : (0 : Int) ≤ (k : Int) := by omega
        by_cases hlt : k < l.length
        · obtain ⟨b, off, rfl, hb1, hb2, hcc⟩ := Hc.out k hlt
          obtain ⟨cs, _, hcs, sv, rfl, hsv⟩ := hcc k hlt
          have g0 := hcs.c1
          rw [Nat.mul_one] at g0
          have kkl : (k : Int) < (l.length : Int) := by omega
          have Hx : Hid (l.getD k [] = l[k]) := Lib.hid (getDS l _ k hlt)
          have Hbadk : Hid (40 < l[k].length → great16B cols l nb = true) := Lib.hid (fun h => by
            have : (l.any fun x => decide (40 < x.length)) = true := by
              rw [List.any_eq_true]
              exact ⟨l[k], List.getElem_mem hlt, by simpa using h⟩
            unfold great16B
            rw [this]; simp)
          obtain ⟨ay, cy, rfl, -, -, -, -⟩ := hsv.form
          clear hcc hcs hsv
          generalize l[k] = x at *
          by_cases h4 : 40 < x.length
          · have c5 : (40 : Int) < (x.length : Int) := by omega
            have hr := HR.out _ HB.out
            rw [Hbadk.out h4] at hr
            clear h4
            go_wp2_with fail
            first | exact hr | exact fin hr rfl
          · have c5 : ¬ (40 : Int) < (x.length : Int) := by omega
            go_wp2_with fail
            go_round
            case rel => exact ⟨k + 1, by omega, by go_num, fun i hi => by
              by_cases e : i = k
              · subst e; rw [Hx.out]; omega
              · exact Hno.out i (by omega)⟩
            case measure => simp [intOf]; omega
        · obtain rfl : k = l.length := by omega
          have llt : ¬ ((l.length : Nat) : Int) < (l.length : Int) := by omega
          have hr := HR.out _ HB.out
          have e : great16B cols l nb = false := by
            unfold great16B
            rw [Hcl.out, decide_eq_false h2, decide_eq_false h3]
            have : (l.any fun x => decide (40 < x.length)) = false := by
              rw [List.any_eq_false]
              intro x hx
              obtain ⟨i, hi, rfl⟩ := List.getElem_of_mem hx
              have := Hno.out i hi
              rw [getDS l _ i hi] at this
              simp; omega
            rw [this]; rfl
          rw [e] at hr
          clear e
          go_wp2_with fail
          first | exact hr | exact fin hr rfl
theorem CellsAt.blk {W W' : World} {b o : Nat} {cs : List Value} (h : CellsAt W b o cs) (e : W'.heap[b]? = W.heap[b]?) : CellsAt W' b o cs := by
  intro j u hu
  have := h j u hu
  simp only [World.cell?] at this ⊢
  rw [e]
  exact this
/-- The blocks of relations that have been written over. -/
def DoneB (bs : List (Nat × Nat)) (k b : Nat) : Prop := ∃ j, ∃ h : j < bs.length, j < k ∧ bs[j].1 ≤ b ∧ b < bs[j].2
def RowsB (hs : List Value) (b : Nat) : Prop := ∃ u ∈ hs, u.ownBlock = some b
theorem DoneB.succ {bs : List (Nat × Nat)} {k b : Nat} (h : DoneB bs k b) : DoneB bs (k + 1) b := by
  obtain ⟨j, h1, h2, h3⟩ := h
  exact ⟨j, h1, by omega, h3⟩
/-- What the walk over one relation's rows keeps. -/
structure FgT (wp wr : World) (hs : List Value) (ns : List Nat) (b1 b2 : Nat) : Prop where
  only : Only (RowsB hs) wp wr
  row : ∀ i (h : i < hs.length) (h2 : i < ns.length), Shp 44 3 b1 b2 wr hs[i] ns[i]
theorem FgT.set {wp wr : World} {hs : List Value} {ns : List Nat} {b1 b2 : Nat} (h : FgT wp wr hs ns b1 b2) {b i : Nat} (u : Value) (h4 : RowsB hs b) : FgT wp (wr.setCell ⟨b, i, none⟩ u) hs ns b1 b2 :=
  ⟨h.only.trans (Only.setCell wr (p := ⟨b, i, none⟩) h4 u), fun k hk h2 => (h.row k hk h2).setCell b i u⟩
end Go.Proofs.YtmconajkgjfplaaGreat
end

/- The document's Fold. (Printed by grc.py.) -/
section
set_option linter.unusedVariables false
set_option linter.unusedSimpArgs false
namespace Go.Proofs.YtmconajkgjfplaaGreat
open Go.RowKit
set_option linter.unusedVariables false
set_option linter.unusedSimpArgs false
attribute [local go_sem ↓] Go.wp_at_zero Go.wp_at_succ
theorem foldErr_no {rc cols : List S} {la : List Ag} {l : List (List V)} (h : rightB rc l cols = false) : foldErr rc cols la l = 2 := by unfold foldErr; rw [h]; rfl
theorem foldErr_unfit {rc cols : List S} {la : List Ag} {l : List (List V)} (h : fitsB rc cols la = false) : foldErr rc cols la l = 2 := by unfold foldErr; rw [h, Bool.and_false]; rfl
theorem foldErr_ops {rc cols : List S} {la : List Ag} {l : List (List V)} (hr : rightB rc l cols = true) {k : Nat} (hk : k < la.length) (h : aggOps rc la[k] = true) : foldErr rc cols la l = 2 := by
  refine foldErr_unfit ?_
  rw [fits_right hr]
  rw [Bool.and_eq_false_iff]
  left
  rw [List.all_eq_false]
  exact ⟨la[k], List.getElem_mem hk, by rw [h]; simp⟩
theorem foldErr_once {rc cols : List S} {la : List Ag} {l : List (List V)} (hr : rightB rc l cols = true) (h : onceN (foldCols cols la) = false) : foldErr rc cols la l = 2 := by
  refine foldErr_unfit ?_
  rw [fits_right hr, h, Bool.and_false]
theorem fits_yes {rc cols : List S} {la : List Ag} {l : List (List V)} (hr : rightB rc l cols = true) (h : onceN (foldCols cols la) = true) (ho : ∀ k (hk : k < la.length), aggOps rc la[k] = false) : fitsB rc cols la = true := by
  rw [fits_right hr, h, Bool.and_true, List.all_eq_true]
  intro a ha
  obtain ⟨k, hk, rfl⟩ := List.getElem_of_mem ha
  rw [ho k hk]; rfl
/-- One of the relations. -/
theorem QLs.at {lo : Nat} {W : World} {p : Option Addr} {n q : Nat} {cols : List S} {rs : List (List (List V))} (h : QLs lo W (.slice p n q) cols rs) {k : Nat} (hk : k < rs.length) :
    ∃ b off pg qg ph qh, p = some ⟨b, off, none⟩ ∧ b < W.heap.size ∧ CellsAt W b (off + k * 2) [.slice pg cols.length qg, .slice ph rs[k].length qh] ∧ Strs lo W.heap.size W (.slice pg cols.length qg) cols ∧ Rws lo W.heap.size W (.slice ph rs[k].length qh) rs[k] := by
  obtain ⟨gs, gbs, gl, gbl, go', gp, gi⟩ := h
  have hkg : k < gs.length := by rw [gl]; exact hk
  have hkgb : k < gbs.length := by rw [gbl]; exact hk
  obtain ⟨s1, s2, s3, s4⟩ := gi k hkg hkgb hk
  obtain ⟨ao', cap', e', -, -, -, hc'⟩ := (Sl.ofOwn (fun _ => rfl) go' : Sl (flat RH.enc) 2 _ _ _ _ gs).form
  injection e' with e1 e2 e3
  subst e1 e3
  obtain ⟨gb, ob, rfl, gb1, gb2, hcc⟩ := hc' k hkg
  obtain ⟨cs, _, hcs, ecs⟩ := hcc k hkg
  obtain rfl : cs = [gs[k].c.v, gs[k].l.v] := ecs
  obtain ⟨pg, qg, epg, -, -, -, -⟩ := s3.cols.form
  obtain ⟨ph, qh, eph, -, -, -, -⟩ := s3.rows.form
  rw [epg, eph] at hcs
  have h1 := s3.cols.mono Strs.loc s1 s2
  have h2 := s3.rows.mono rowE_loc s1 s2
  rw [epg] at h1
  rw [eph] at h2
  exact ⟨gb, ob, pg, qg, ph, qh, rfl, by omega, hcs, h1, h2⟩
set_option maxRecDepth 1000000 in
set_option maxHeartbeats 100000000 in
theorem refFold_any (lo hi lc hc l2 h2 l3 h3 : Nat) (rc : List S) (ac : Option Addr) (cc : Nat) (l : List (List V)) (lv : Value) (cols : List S) (cv : Value) (la : List Ag) (lav : Value) (w : World) (hrc : Strs lc hc w (.slice ac rc.length cc) rc) (hhc : hc ≤ w.heap.size) (hv : Rws lo hi w lv l) (hhi : hi ≤ w.heap.size) (hcols : Strs l2 h2 w cv cols) (hh2 : h2 ≤ w.heap.size) (hla : Ags l3 h3 w lav la) (hh3 : h3 ≤ w.heap.size) (hlen : cols.length ≤ 1000000000) (hll : la.length ≤ 1000000000) (hl1 : l.length ≤ 1000) (hok : ∀ x ∈ l, ∀ a ∈ x, a.ok) (R : Ending → World → Prop)
    (hR : ∀ w' cv' lv', Below w.heap.size w w' → Strs 0 w'.heap.size w' cv' (okL (foldErr rc cols la l) (foldCols cols la)) → Rws 0 w'.heap.size w' lv' (okL (foldErr rc cols la l) (relCanon (foldRows rc cols la l))) → R (.returned (.tuple #[.agg #[cv', lv'], .int .i64 (foldErr rc cols la l)])) w') :
    Calls Tryz.prog 16 #[.agg #[.slice ac rc.length cc, lv], cv, lav] w R := by
  have HR := Lib.hid hR
  have Hv := Lib.hid hv
  have Hrc := Lib.hid hrc
  have Ho := Lib.hid hcols
  have Hla := Lib.hid hla
  have Hok := Lib.hid hok
  have Hrs : Hid (∀ x ∈ l, ∀ a ∈ x, a.s.length ≤ 9223372036854775807) := Lib.hid (fun x hx a ha => ok_len (hok x hx a ha))
  obtain ⟨av, av2, rfl, -, -, -, -⟩ := hv.form
  obtain ⟨ak, ck, rfl, -, -, -, -⟩ := hcols.form
  obtain ⟨al, cl, rfl, -, -, -, -⟩ := hla.form
  have hrl63 := hrc.len
  clear hR hv hrc hcols hla hok
  go_enter Tryz.func16, Tryz.ntmps16
  go_upto_region 1 with fail
  have s1 : (w.alloc (.cells #[.slice ac rc.length cc, .slice av l.length av2] 50)).heap.size = w.heap.size + 1 := by simp
  have hBa := alloc_below w (.cells #[.slice ac rc.length cc, .slice av l.length av2] 50)
  have hba := Blk.new w [.slice ac rc.length cc, .slice av l.length av2] 50 rfl
  have hBb := alloc_below (w.alloc (.cells #[.slice ac rc.length cc, .slice av l.length av2] 50)) (.cells #[.slice none 0 0, .slice none 0 0] 50)
  have hbb := Blk.new (w.alloc (.cells #[.slice ac rc.length cc, .slice av l.length av2] 50)) [.slice none 0 0, .slice none 0 0] 50 s1.symm
  have hba := hba.below hBb hba.lt
  have hB := hBa.trans (hBb.mono hBa.size)
  obtain ⟨b6, eb6⟩ : ∃ b, b = w.heap.size + 1 := ⟨_, rfl⟩
  rw [← eb6] at hbb ⊢
  generalize (w.alloc (.cells #[.slice ac rc.length cc, .slice av l.length av2] 50)).alloc (.cells #[.slice none 0 0, .slice none 0 0] 50) = wa at *
  have hb6w : w.heap.size ≤ b6 := by omega
  have hzb : b6 < wa.heap.size := hbb.lt
  have HB := Lib.hid hB
  have Hb := Lib.hid hbb
  have Ha := Lib.hid hba
  have hwa : w.heap.size < wa.heap.size := by omega
  have hzwa := hB.size
  obtain ⟨c0, c1⟩ := hba.cells.c2
  simp only [Nat.zero_add] at c1
  clear s1 hBa hBb hba hbb hB eb6
  go_wp2_with fail
  refine right16_any lo hi lc hc l2 h2 rc _ _ l _ cols _ wa (Sl.below Hrc.out Strs.loc HB.out hhc) (by omega) (Sl.below Hv.out rowE_loc HB.out hhi) (by omega) (Sl.below Ho.out Strs.loc HB.out hh2) (by omega) Hrs.out _ (fun w2 hB2 => ?_)
  have hz2 := hB2.size
  have HB2 := Lib.hid (HB.out.trans (hB2.mono hzwa))
  have Hb2 := Lib.hid (Hb.out.below hB2 hzb)
  have Ha2 := Lib.hid (Ha.out.below hB2 hwa)
  clear hB2 c0 c1 Hb Ha HB
  cases hri : rightB rc l cols
  · have hr := HR.out
    rw [foldErr_no hri, okL_no (by omega), okL_no (by omega)] at hr
    clear hri
    have hb := Hb2.out
    have hB := HB2.out
    have f0 := hb.free 0
    have f1 := hb.free 1
    obtain ⟨d0, d1⟩ := hb.cells.c2
    simp only [Nat.zero_add] at d1
    go_wp2_with fail
    exact ret_cell_tmp rfl rfl (((hb.set 0 (.slice none 0 0)).set 1 (.slice none 0 0)).cells.runVar (fun _ => by kernel_rfl) (fun _ => by kernel_rfl)) rfl rfl
      (hr _ _ _ ((hB.setCell (p := ⟨b6, 0, none⟩) hb6w _).setCell (p := ⟨b6, 1, none⟩) hb6w _) (Sl.nil _ _ _ _ _) (Sl.nil _ _ _ _ _))
  have Hri := Lib.hid hri
  have hcl : cols.length ≤ 32 := once_len (by unfold rightB at hri; simp only [Bool.and_eq_true] at hri; exact hri.2)
  clear hri
  obtain ⟨v9, w9, hr9, ho9, ha9⟩ := appTL (Own.nil _ _ _ w2.heap.size w2) (Sl.below Ho.out Strs.loc HB2.out hh2) (by simp; omega) (Nat.le_refl _)
  rw [List.nil_append] at ho9
  have hB9 : Below w2.heap.size w2 w9 := ha9.below (Nat.le_refl _) (fun q e => by cases e)
  have hlow : b6 < w2.heap.size := by omega
  go_wp2_with (at_builtin; refine AtApp.of ?_)
  refine AtApp.go hr9 rfl rfl rfl rfl ?_
  clear hr9 ha9
  go_wp2_with fail
  go_loopw [9, 10, 11] (fun t9 t10 t11 wr => ∃ k : Nat, k ≤ la.length ∧ t10 = .int .i64 k ∧ Below w2.heap.size w2 wr ∧ OwnT w2.heap.size wr t9 (foldCols cols (la.take k)) ∧ ∀ i (hi : i < la.length), i < k → aggOps rc la[i] = false) (fun _ t10 _ _ => la.length - (intOf t10).toNat)
  case atStart => exact ⟨0, Nat.zero_le _, rfl, hB9, by simpa [foldCols] using ho9, fun i _ h => absurd h (Nat.not_lt_zero _)⟩
  case round =>
    clear ho9 hB9
    obtain ⟨k, hk, rfl, hBk, hown, hno⟩ := hrel
    obtain ⟨wo, ewo⟩ : ∃ x, x = wr := ⟨_, rfl⟩
    subst ewo
    have HBk := Lib.hid hBk
    have Hown := Lib.hid hown
    have Hno := Lib.hid hno
    have hz := hBk.size
    have kk0 : (0 : Int) ≤ (k : Int) := by omega
    obtain ⟨p9, q9, e9⟩ := Own.slice hown
    have el9 : (foldCols cols (la.take k)).length = cols.length + k := by unfold foldCols; rw [List.length_append, List.length_map, List.length_take, Nat.min_eq_left hk]
    rw [el9] at e9
    subst e9
    have HBw := Lib.hid (HB2.out.trans (hBk.mono HB2.out.size))
    have hzw2 := HB2.out.size
    clear hBk hown hno el9
    by_cases hlt : k < la.length
    · obtain ⟨ao', cap', e', -, -, -, hc⟩ := (Sl.below Hla.out Ags.loc HBw.out hh3).form
      injection e' with e1 e2 e3
      subst e1 e3
      obtain ⟨b, off, rfl, hb1, hb2, hcc⟩ := hc k hlt
      obtain ⟨cs, -, hcs, ecs⟩ := hcc k hlt
      obtain rfl : cs = Ag.enc la[k] := ecs
      have hq := hcs
      have Hq : Hid (CellsAt wo b (off + k * 3) (Ag.enc la[k]) ∧ b < wo.heap.size) := Lib.hid ⟨by first | exact hcs | (rw [Nat.mul_comm]; exact hcs) | (have := hcs; simpa [Nat.mul_comm] using this), by omega⟩
      have kkl : (k : Int) < (la.length : Int) := by omega
      have Hst : Hid (la.take (k + 1) = la.take k ++ [la[k]]) := Lib.hid (List.take_succ_eq_append_getElem hlt)
      have Hbad : Hid (aggOps rc la[k] = true → foldErr rc cols la l = 2) := Lib.hid (foldErr_ops Hri.out hlt)
      have Hnext : Hid (aggOps rc la[k] = false → ∀ i (hi : i < la.length), i < k + 1 → aggOps rc la[i] = false) := Lib.hid (fun h i hi hik => by
        by_cases e : i = k
        · subst e; exact h
        · exact Hno.out i hi (by omega))
      clear hcc hcs hc e2 hq
      generalize la[k] = a at *
      go_wp2_with fail
      refine wp_region_held_drew (S := fun w' => w' = wo.drew) (by kernel_rfl) rfl (fun hHeld => ?_)
      refine wpAnyH_take (i := 0) (v := .pointer (some ⟨w.heap.size, 0, none⟩)) rfl (by kernel_rfl) (by kernel_rfl) (by kernel_rfl) (fun _ _ _ h => h) (Or.inl ⟨by rfl, ?_⟩) hHeld ?_
      · intro w' hSw; subst hSw; go_simp <;> omega
      try simp only [Act.put, List.getElem_toArray, List.getElem_cons_succ, List.getElem_cons_zero, List.setIfInBounds_toArray, List.set_cons_zero, List.set_cons_succ]
      refine wpAnyH_take (i := 1) (v := .slice ac rc.length cc) rfl (by kernel_rfl) (by kernel_rfl) (by kernel_rfl) (fun _ _ _ h => h) (Or.inl ⟨by rfl, ?_⟩) hHeld ?_
      · intro w' hSw; subst hSw; have kx := (Ha2.out.below HBk.out (by omega)).drew.cells.c2.1; go_simp
      try simp only [Act.put, List.getElem_toArray, List.getElem_cons_succ, List.getElem_cons_zero, List.setIfInBounds_toArray, List.set_cons_zero, List.set_cons_succ]
      refine wpAnyH_take (i := 2) (v := .slice (some ⟨b, off, none⟩) la.length cl) rfl (by kernel_rfl) (by kernel_rfl) (by kernel_rfl) (fun _ _ _ h => h) (Or.inl ⟨by rfl, ?_⟩) hHeld ?_
      · intro w' hSw; subst hSw; go_simp <;> omega
      try simp only [Act.put, List.getElem_toArray, List.getElem_cons_succ, List.getElem_cons_zero, List.setIfInBounds_toArray, List.set_cons_zero, List.set_cons_succ]
      refine wpAnyH_take (i := 3) (v := .int .i64 ((k : Int))) rfl (by kernel_rfl) (by kernel_rfl) (by kernel_rfl) (fun _ _ _ h => h) (Or.inl ⟨by rfl, ?_⟩) hHeld ?_
      · intro w' hSw; subst hSw; go_simp <;> omega
      try simp only [Act.put, List.getElem_toArray, List.getElem_cons_succ, List.getElem_cons_zero, List.setIfInBounds_toArray, List.set_cons_zero, List.set_cons_succ]
      refine wpAnyH_take (i := 4) (v := .pointer (some ⟨b, off + k * 3, none⟩)) rfl (by kernel_rfl) (by kernel_rfl) (by kernel_rfl) (fun _ _ _ h => h) (Or.inl ⟨by rfl, ?_⟩) hHeld ?_
      · intro w' hSw; subst hSw; go_simp <;> omega
      try simp only [Act.put, List.getElem_toArray, List.getElem_cons_succ, List.getElem_cons_zero, List.setIfInBounds_toArray, List.set_cons_zero, List.set_cons_succ]
      refine wpAnyH_take (i := 5) (v := .pointer (some ⟨b, off + k * 3 + 1, none⟩)) rfl (by kernel_rfl) (by kernel_rfl) (by kernel_rfl) (fun _ _ _ h => h) (Or.inl ⟨by rfl, ?_⟩) hHeld ?_
      · intro w' hSw; subst hSw; go_simp <;> omega
      try simp only [Act.put, List.getElem_toArray, List.getElem_cons_succ, List.getElem_cons_zero, List.setIfInBounds_toArray, List.set_cons_zero, List.set_cons_succ]
      refine wpAnyH_take (i := 6) (v := .string ⟨a.col.toArray⟩) rfl (by kernel_rfl) (by kernel_rfl) (by kernel_rfl) (fun _ _ _ h => h) (Or.inl ⟨by rfl, ?_⟩) hHeld ?_
      · intro w' hSw; subst hSw; have kx := Hq.out.1.c3.2.1; go_simp
      try simp only [Act.put, List.getElem_toArray, List.getElem_cons_succ, List.getElem_cons_zero, List.setIfInBounds_toArray, List.set_cons_zero, List.set_cons_succ]
      refine wpAnyH_ready (rs := [7]) (by kernel_rfl) (by simp) ?_
      refine allCall (f := 41) (args := #[.slice ac rc.length cc, .string ⟨a.col.toArray⟩]) rfl (by kernel_rfl) (by kernel_rfl) ?_ AllReadyH.nil
      refine place16_any lc hc rc a.col _ wo.drew (Sl.below Hrc.out Strs.loc HBw.out.drew hhc) _ ?_
      refine ⟨_, rfl, rfl, ?_⟩
      try simp only [Act.put, List.getElem_toArray, List.getElem_cons_succ, List.getElem_cons_zero, List.setIfInBounds_toArray, List.set_cons_zero, List.set_cons_succ]
      refine wpAnyH_take (i := 8) (v := .int .i64 ((placeI rc a.col))) rfl (by kernel_rfl) (by kernel_rfl) (by kernel_rfl) (fun _ _ _ h => h) (Or.inl ⟨by rfl, ?_⟩) hHeld ?_
      · intro w' hSw; subst hSw; go_simp <;> omega
      try simp only [Act.put, List.getElem_toArray, List.getElem_cons_succ, List.getElem_cons_zero, List.setIfInBounds_toArray, List.set_cons_zero, List.set_cons_succ]
      refine wpAnyH_done (by kernel_rfl) ?_ _
      clear hHeld
      have hd : Below wo.heap.size wo wo.drew := (Below.refl _ _).drew
      generalize wo.drew = wd at *
      have hzd := hd.size
      have HBd := Lib.hid (HBk.out.trans (hd.mono hz))
      have HBwd := Lib.hid (HBw.out.trans (hd.mono (by omega)))
      have Hod := Lib.hid (Own.kept Hown.out hd)
      have Hb2d := Lib.hid (Hb2.out.below HBd.out hlow)
      obtain ⟨g0, g1, g2⟩ := (CellsAt.agree Hq.out.1 (.below hd (Nat.le_refl _)) (Nat.zero_le _) Hq.out.2).c3
      clear hd
      have Hpl := Lib.hid (placeI_lt rc a.col)
      have Hle : Hid ((foldCols cols (la.take k)).length ≤ 2000000000) := Lib.hid (by unfold foldCols; rw [List.length_append, List.length_map, List.length_take]; omega)
      by_cases o1 : a.op < 1
      · have hbd : aggOps rc a = true := by unfold aggOps; rw [decide_eq_true o1]; simp
        have hr := HR.out
        rw [Hbad.out hbd, okL_no (by omega), okL_no (by omega)] at hr
        clear hbd
        generalize placeI rc a.col = P at *
        have hb := Hb2d.out
        have hB := HBwd.out
        have f0 := hb.free 0
        have f1 := hb.free 1
        obtain ⟨d0, d1⟩ := hb.cells.c2
        simp only [Nat.zero_add] at d1
        go_wp2_with fail
        exact ret_cell_tmp rfl rfl (((hb.set 0 (.slice none 0 0)).set 1 (.slice none 0 0)).cells.runVar (fun _ => by kernel_rfl) (fun _ => by kernel_rfl)) rfl rfl
          (hr _ _ _ ((hB.setCell (p := ⟨b6, 0, none⟩) hb6w _).setCell (p := ⟨b6, 1, none⟩) hb6w _) (Sl.nil _ _ _ _ _) (Sl.nil _ _ _ _ _))
      by_cases o5 : 5 < a.op
      · have hbd : aggOps rc a = true := by unfold aggOps; rw [decide_eq_true o5]; simp
        have hr := HR.out
        rw [Hbad.out hbd, okL_no (by omega), okL_no (by omega)] at hr
        clear hbd
        generalize placeI rc a.col = P at *
        have hb := Hb2d.out
        have hB := HBwd.out
        have f0 := hb.free 0
        have f1 := hb.free 1
        obtain ⟨d0, d1⟩ := hb.cells.c2
        simp only [Nat.zero_add] at d1
        go_wp2_with fail
        exact ret_cell_tmp rfl rfl (((hb.set 0 (.slice none 0 0)).set 1 (.slice none 0 0)).cells.runVar (fun _ => by kernel_rfl) (fun _ => by kernel_rfl)) rfl rfl
          (hr _ _ _ ((hB.setCell (p := ⟨b6, 0, none⟩) hb6w _).setCell (p := ⟨b6, 1, none⟩) hb6w _) (Sl.nil _ _ _ _ _) (Sl.nil _ _ _ _ _))
      by_cases oc : a.op = 1
      · by_cases on : a.col = []
        · have hbd : aggOps rc a = false := by unfold aggOps; rw [decide_eq_false o1, decide_eq_false o5, decide_eq_true oc, decide_eq_true on]; simp
          have Hn := Lib.hid (Hnext.out hbd)
          clear hbd
          obtain ⟨P, hP⟩ : ∃ P, P = placeI rc a.col := ⟨_, rfl⟩
          rw [← hP] at Hpl ⊢
          clear hP
          obtain ⟨v8, w8, hr8, ho8, ha8⟩ := appT1 Hod.out a.nm rfl (by have := Hle.out; omega) (by omega)
          have HB8 := Lib.hid (HBd.out.trans (ha8.below (by omega) (fun q e => (Own.lt Hod.out q e).1)))
          have Ho8 : Hid (OwnT w2.heap.size w8 v8 (foldCols cols (la.take (k + 1)))) := Lib.hid (by rw [Hst.out]; unfold foldCols at ho8 ⊢; rw [List.map_append, ← List.append_assoc]; exact ho8)
          obtain ⟨p8, c8, e8⟩ := Own.slice ho8
          subst e8
          clear ho8 ha8
          generalize (foldCols cols (la.take k) ++ [a.nm]).length = n8 at *
          go_wp2_with (at_builtin; refine AtApp.of ?_)
          refine AtApp.go hr8 rfl rfl rfl rfl ?_
          go_wp2_with fail
          go_roundw
          case rel => exact ⟨k + 1, by omega, by go_num, HB8.out, Ho8.out, Hn.out⟩
          case measure => simp [intOf]; omega
        · have hbd : aggOps rc a = true := by unfold aggOps; rw [decide_eq_true oc, decide_eq_false on]; simp
          have hr := HR.out
          rw [Hbad.out hbd, okL_no (by omega), okL_no (by omega)] at hr
          clear hbd
          generalize placeI rc a.col = P at *
          have hb := Hb2d.out
          have hB := HBwd.out
          have f0 := hb.free 0
          have f1 := hb.free 1
          obtain ⟨d0, d1⟩ := hb.cells.c2
          simp only [Nat.zero_add] at d1
          go_wp2_with fail
          exact ret_cell_tmp rfl rfl (((hb.set 0 (.slice none 0 0)).set 1 (.slice none 0 0)).cells.runVar (fun _ => by kernel_rfl) (fun _ => by kernel_rfl)) rfl rfl
            (hr _ _ _ ((hB.setCell (p := ⟨b6, 0, none⟩) hb6w _).setCell (p := ⟨b6, 1, none⟩) hb6w _) (Sl.nil _ _ _ _ _) (Sl.nil _ _ _ _ _))
      · have o7 : 1 < a.op := by omega
        by_cases on : placeI rc a.col < 0
        · have hbd : aggOps rc a = true := by unfold aggOps; rw [decide_eq_false oc, decide_eq_true on]; simp
          have hr := HR.out
          rw [Hbad.out hbd, okL_no (by omega), okL_no (by omega)] at hr
          clear hbd
          generalize placeI rc a.col = P at *
          have hb := Hb2d.out
          have hB := HBwd.out
          have f0 := hb.free 0
          have f1 := hb.free 1
          obtain ⟨d0, d1⟩ := hb.cells.c2
          simp only [Nat.zero_add] at d1
          go_wp2_with fail
          exact ret_cell_tmp rfl rfl (((hb.set 0 (.slice none 0 0)).set 1 (.slice none 0 0)).cells.runVar (fun _ => by kernel_rfl) (fun _ => by kernel_rfl)) rfl rfl
            (hr _ _ _ ((hB.setCell (p := ⟨b6, 0, none⟩) hb6w _).setCell (p := ⟨b6, 1, none⟩) hb6w _) (Sl.nil _ _ _ _ _) (Sl.nil _ _ _ _ _))
        · have hbd : aggOps rc a = false := by unfold aggOps; rw [decide_eq_false o1, decide_eq_false o5, decide_eq_false oc, decide_eq_false on]; simp
          have Hn := Lib.hid (Hnext.out hbd)
          clear hbd
          obtain ⟨P, hP⟩ : ∃ P, P = placeI rc a.col := ⟨_, rfl⟩
          rw [← hP] at Hpl on ⊢
          clear hP
          obtain ⟨v8, w8, hr8, ho8, ha8⟩ := appT1 Hod.out a.nm rfl (by have := Hle.out; omega) (by omega)
          have HB8 := Lib.hid (HBd.out.trans (ha8.below (by omega) (fun q e => (Own.lt Hod.out q e).1)))
          have Ho8 : Hid (OwnT w2.heap.size w8 v8 (foldCols cols (la.take (k + 1)))) := Lib.hid (by rw [Hst.out]; unfold foldCols at ho8 ⊢; rw [List.map_append, ← List.append_assoc]; exact ho8)
          obtain ⟨p8, c8, e8⟩ := Own.slice ho8
          subst e8
          clear ho8 ha8
          generalize (foldCols cols (la.take k) ++ [a.nm]).length = n8 at *
          go_wp2_with (at_builtin; refine AtApp.of ?_)
          refine AtApp.go hr8 rfl rfl rfl rfl ?_
          go_wp2_with fail
          go_roundw
          case rel => exact ⟨k + 1, by omega, by go_num, HB8.out, Ho8.out, Hn.out⟩
          case measure => simp [intOf]; omega
    · obtain rfl : k = la.length := by omega
      have llt : ¬ ((la.length : Nat) : Int) < (la.length : Int) := by omega
      have Hall : Hid (∀ i (hi : i < la.length), aggOps rc la[i] = false) := Lib.hid (fun i hi => Hno.out i hi hi)
      rw [List.take_length] at Hown
      have Hb2o := Lib.hid (Hb2.out.below HBk.out hlow)
      clear Hno hk
      go_wp2_with fail
      refine once16_any w2.heap.size wo.heap.size (foldCols cols la) _ wo (OwnT.sl Hown.out) _ ?_
      cases hon : onceN (foldCols cols la)
      · have hr := HR.out
        rw [foldErr_once Hri.out hon, okL_no (by omega), okL_no (by omega)] at hr
        clear hon
        have hb := Hb2o.out
        have hB := HBw.out
        have f0 := hb.free 0
        have f1 := hb.free 1
        obtain ⟨d0, d1⟩ := hb.cells.c2
        simp only [Nat.zero_add] at d1
        go_wp2_with fail
        exact ret_cell_tmp rfl rfl (((hb.set 0 (.slice none 0 0)).set 1 (.slice none 0 0)).cells.runVar (fun _ => by kernel_rfl) (fun _ => by kernel_rfl)) rfl rfl
          (hr _ _ _ ((hB.setCell (p := ⟨b6, 0, none⟩) hb6w _).setCell (p := ⟨b6, 1, none⟩) hb6w _) (Sl.nil _ _ _ _ _) (Sl.nil _ _ _ _ _))
      have Hfit := Lib.hid (fits_yes Hri.out hon Hall.out)
      have He0 : Hid (foldErr rc cols la l = if 32 < cols.length + la.length then 140 else if foldOk rc cols la l then ofErr (foldCols cols la) (foldRows rc cols la l) else 160) := Lib.hid (by unfold foldErr; rw [Hri.out, Hfit.out]; rfl)
      clear hon
      by_cases h32 : 32 < cols.length + la.length
      · have he : foldErr rc cols la l = 140 := by rw [He0.out, if_pos h32]
        have hr := HR.out
        rw [he, okL_no (by omega), okL_no (by omega)] at hr
        have h32i : (32 : Int) < (cols.length + la.length : Nat) := by omega
        clear he
        generalize cols.length + la.length = nt at *
        have hb := Hb2o.out
        have hB := HBw.out
        have f0 := hb.free 0
        have f1 := hb.free 1
        obtain ⟨d0, d1⟩ := hb.cells.c2
        simp only [Nat.zero_add] at d1
        go_wp2_with fail
        exact ret_cell_tmp rfl rfl (((hb.set 0 (.slice none 0 0)).set 1 (.slice none 0 0)).cells.runVar (fun _ => by kernel_rfl) (fun _ => by kernel_rfl)) rfl rfl
          (hr _ _ _ ((hB.setCell (p := ⟨b6, 0, none⟩) hb6w _).setCell (p := ⟨b6, 1, none⟩) hb6w _) (Sl.nil _ _ _ _ _) (Sl.nil _ _ _ _ _))
      have He1 : Hid (foldErr rc cols la l = if foldOk rc cols la l then ofErr (foldCols cols la) (foldRows rc cols la l) else 160) := Lib.hid (by rw [He0.out, if_neg h32])
      have h32i : ¬ (32 : Int) < (cols.length + la.length : Nat) := by omega
      have ge : grpErr rc l cols = 0 := by unfold grpErr; rw [Hri.out]; rfl
      have hntl : cols.length + la.length ≤ 32 := by omega
      generalize hnt : cols.length + la.length = nt at *
      have Hnt := Lib.hid hnt
      have Hge := Lib.hid ge
      obtain ⟨c0, c1⟩ := (Ha2.out.below HBk.out (by omega)).cells.c2
      simp only [Nat.zero_add] at c1
      clear He0 ge hnt
      go_wp2_with fail
      refine refGroups_any lo hi lc hc l2 h2 rc _ _ l _ cols _ wo (Sl.below Hrc.out Strs.loc HBw.out hhc) (by omega) (Sl.below Hv.out rowE_loc HBw.out hhi) (by omega) (Sl.below Ho.out Strs.loc HBw.out hh2) (by omega) Hrs.out _ (fun w3 v13 hB3 hQ3 => ?_)
      rw [Hge.out, okL_ok rfl] at hQ3
      rw [Hge.out]
      obtain ⟨p13, q13, e13⟩ := QLs.slice hQ3
      subst e13
      have hz3 := hB3.size
      have HB3 := Lib.hid (HBk.out.trans (hB3.mono hz))
      have HBw3 := Lib.hid (HBw.out.trans (hB3.mono (by omega)))
      have Hown3 := Lib.hid (Own.kept Hown.out hB3)
      have HQ3 := Lib.hid hQ3
      have Hks : Hid ((grpL rc l cols).length = (keysL (grpK rc cols) l).length) := Lib.hid (by unfold grpL; rw [List.length_map])
      clear hB3 hQ3 c0 c1
      obtain ⟨n, hn⟩ : ∃ n, n = (grpL rc l cols).length := ⟨_, rfl⟩
      rw [← hn] at HQ3 Hks ⊢
      have Hn := Lib.hid hn
      have hn1 : n ≤ 1000 := by rw [Hks.out]; exact Nat.le_trans keys_le hl1
      clear hn
      have Hm : Hid (mayRel rc l = true) := Lib.hid (by have h := Hri.out; unfold rightB at h; simp only [Bool.and_eq_true] at h; exact h.1.1)
      have hzw3 := HBw3.out.size
      have hzo3 := HB3.out.size
      have HFits := Lib.hid (fits_all Hfit.out)
      go_wp2_with fail
      go_loopw [15, 16] (fun t15 t16 wr => ∃ k : Nat, k ≤ n ∧ t16 = .int .i64 k ∧ Below w3.heap.size w3 wr ∧ (∃ hs, OwnR w3.heap.size wr t15 hs ((foldRows rc cols la l).take k)) ∧ ∀ j (hj : j < (keysL (grpK rc cols) l).length), j < k → ∀ a ∈ la, errG rc (withK (grpK rc cols) l (keysL (grpK rc cols) l)[j]) a = 0) (fun _ t16 _ => n - (intOf t16).toNat)
      case atStart => exact ⟨0, Nat.zero_le _, rfl, Below.refl _ _, ⟨[], by simpa using OwnR.nil _ _⟩, fun j _ h => absurd h (Nat.not_lt_zero _)⟩
      case round =>
        obtain ⟨k, hk, rfl, hBk, ⟨hs, hR15⟩, hgood⟩ := hrel
        obtain ⟨wu, ewu⟩ : ∃ x, x = wr := ⟨_, rfl⟩
        subst ewu
        have HBu := Lib.hid hBk
        have HR15 := Lib.hid hR15
        have Hgood := Lib.hid hgood
        have hzu := hBk.size
        have kk0 : (0 : Int) ≤ (k : Int) := by omega
        obtain ⟨p15, q15, e15⟩ := Own.slice hR15.own
        have el15 : hs.length = k := by rw [hR15.len, List.length_take, Nat.min_eq_left (by unfold foldRows; rw [List.length_map, ← Hks.out]; exact hk)]
        rw [el15] at e15
        have Hel15 := Lib.hid el15
        subst e15
        have HBwu := Lib.hid (HBw3.out.trans (hBk.mono hzw3))
        clear hBk hR15 hgood el15
        by_cases hlt : k < n
        · have kkl : (k : Int) < (n : Int) := by omega
          have hkK : k < (keysL (grpK rc cols) l).length := by rw [← Hks.out]; exact hlt
          have hkG : k < (grpL rc l cols).length := by rw [← Hn.out]; exact hlt
          obtain ⟨bg, og, pg, qg, ph, qh, rfl, hbg, hcg, hsg, hrg⟩ := QLs.at (HQ3.out.kept HBu.out) hkG
          have hgk : (grpL rc l cols)[k] = withK (grpK rc cols) l (keysL (grpK rc cols) l)[k] := grp_at hkG hkK
          rw [hgk] at hcg hrg
          have hmem : (keysL (grpK rc cols) l)[k] ∈ keysL (grpK rc cols) l := List.getElem_mem hkK
          have Hproj := Lib.hid (group_proj (cols := cols) Hri.out hmem)
          have Hkey := Lib.hid (group_key (rc := rc) (cols := cols) hmem)
          have hne := group_ne hmem
          have Hgok : Hid (∀ x ∈ withK (grpK rc cols) l (keysL (grpK rc cols) l)[k], x.length = rc.length ∧ ∀ a ∈ x, a.ok) := Lib.hid (fun x hx => ⟨may_len Hm.out x (List.mem_filter.1 hx).1, Hok.out x (List.mem_filter.1 hx).1⟩)
          have Hgrs : Hid (∀ x ∈ withK (grpK rc cols) l (keysL (grpK rc cols) l)[k], ∀ a ∈ x, a.s.length ≤ 9223372036854775807) := Lib.hid (fun x hx => Hrs.out x (List.mem_filter.1 hx).1)
          have hgl : (withK (grpK rc cols) l (keysL (grpK rc cols) l)[k]).length ≤ 1000 := Nat.le_trans withK_len hl1
          have Hbad : Hid (∀ a ∈ la, errG rc (withK (grpK rc cols) l (keysL (grpK rc cols) l)[k]) a ≠ 0 → foldErr rc cols la l = errG rc (withK (grpK rc cols) l (keysL (grpK rc cols) l)[k]) a) := Lib.hid (fun a ha he => fold_err Hri.out Hfit.out (by rw [Hnt.out]; exact hntl) hmem ha he)
          have Hrow : Hid ((foldRows rc cols la l).take (k + 1) = (foldRows rc cols la l).take k ++ [foldRow rc la (keysL (grpK rc cols) l)[k] (withK (grpK rc cols) l (keysL (grpK rc cols) l)[k])]) := Lib.hid (rows_take hkK)
          have Hgn : Hid ((∀ a ∈ la, errG rc (withK (grpK rc cols) l (keysL (grpK rc cols) l)[k]) a = 0) → ∀ j (hj : j < (keysL (grpK rc cols) l).length), j < k + 1 → ∀ a ∈ la, errG rc (withK (grpK rc cols) l (keysL (grpK rc cols) l)[j]) a = 0) := Lib.hid (fun h j hj hjk => by
            by_cases e : j = k
            · subst e; exact h
            · exact Hgood.out j hj (by omega))
          have Hkl := Lib.hid (keys_len _ hmem)
          have hbg3 := hbg
          clear Hgood
          have Hmemk := Lib.hid hmem
          clear hmem hgk
          generalize withK (grpK rc cols) l (keysL (grpK rc cols) l)[k] = g at *
          generalize (keysL (grpK rc cols) l)[k] = key at *
          obtain ⟨ng, hng⟩ : ∃ ng, ng = g.length := ⟨_, rfl⟩
          rw [← hng] at hcg hrg
          have Hng := Lib.hid hng
          have Hcg := Lib.hid hcg
          have Hsg := Lib.hid hsg
          have Hrg := Lib.hid hrg
          have hng1 : 0 < ng := by rw [hng]; exact hne
          have hng2 : ng ≤ 1000 := by rw [hng]; exact hgl
          obtain ⟨y0, y1⟩ := hcg.c2
          have ky := hcg.runVar (P := Tryz.prog) (t := 50) (fun _ => by kernel_rfl) (fun _ => by kernel_rfl)
          clear hcg hsg hrg hng hne hgl
          go_wp2_with fail
          refine refProject_any wo.heap.size wu.heap.size wo.heap.size wu.heap.size l2 h2 rc _ _ g _ cols _ wu Hsg.out (Nat.le_refl _) (by have h := Hrg.out; first | exact h | (rw [Hng.out] at h; exact h)) (Nat.le_refl _) (Sl.below Ho.out Strs.loc HBwu.out hh2) (by omega) (by omega) (by rw [← Hng.out]; omega) Hgrs.out _ (fun wp cvp lvp hBp hTp hRp => ?_)
          rw [Hproj.out, okL_ok rfl] at hTp
          rw [Hproj.out, okL_ok rfl, Hkey.out] at hRp
          rw [Hproj.out]
          obtain ⟨pc, qc, rfl, -, -, -, -⟩ := hTp.form
          obtain ⟨pl, ql, epl, -, -, -, -⟩ := hRp.form
          replace epl : lvp = .slice pl 1 ql := epl
          subst epl
          obtain ⟨bl, ol, rfl, hbl, hatl⟩ := Rws.at (l := [key]) hRp (Nat.le_refl _) Nat.one_pos
          obtain ⟨pk, qk, hcell, hrow⟩ := hatl 0 Nat.one_pos
          simp only [List.getElem_cons_zero] at hcell hrow
          have hzp := hBp.size
          go_upto_region 25 with fail
          have hBA := alloc_below wp (.cells #[.slice pc cols.length qc, .slice (some ⟨bl, ol, none⟩) 1 ql] 50)
          have hbA := Blk.new wp [.slice pc cols.length qc, .slice (some ⟨bl, ol, none⟩) 1 ql] 50 rfl
          generalize wp.alloc (.cells #[.slice pc cols.length qc, .slice (some ⟨bl, ol, none⟩) 1 ql] 50) = wA at *
          have hzA := hBA.size
          have g0 := hcell wA hBA
          have hrowA := Sl.below hrow Row1.loc hBA (Nat.le_refl _)
          obtain ⟨d0, d1⟩ := hbA.cells.c2
          simp only [Nat.zero_add] at d1
          have HBA := Lib.hid (hBp.trans (hBA.mono hzp))
          clear hBp hBA hbA hTp hRp hatl hcell hrow y0 y1 ky
          rw [Nat.add_zero] at g0
          have hkl63 : key.length ≤ 32 := by rw [Hkl.out]; exact hcl
          obtain ⟨vx, wx, hrx, hox, hax⟩ := appVL (Own.nil _ _ _ wA.heap.size wA) hrowA (by simp; omega) (Nat.le_refl _)
          rw [List.nil_append] at hox
          have hBx : Below wA.heap.size wA wx := hax.below (Nat.le_refl _) (fun q e => by cases e)
          go_wp2_with (at_builtin; refine AtApp.of ?_)
          refine AtApp.go hrx rfl rfl rfl rfl ?_
          clear hrx hax g0 hrowA d0 d1
          go_wp2_with fail
          go_loopw [19, 20] (fun t19 t20 wr => ∃ j : Nat, j ≤ la.length ∧ t20 = .int .i64 j ∧ Below wA.heap.size wA wr ∧ OwnV wA.heap.size wr t19 (foldRow rc (la.take j) key g) ∧ ∀ i (hi : i < la.length), i < j → errG rc g la[i] = 0) (fun _ t20 _ => la.length - (intOf t20).toNat)
          case atStart => exact ⟨0, Nat.zero_le _, rfl, hBx, by simpa [foldRow] using hox, fun i _ h => absurd h (Nat.not_lt_zero _)⟩
          case round =>
            clear hox hBx
            obtain ⟨j, hj, rfl, hBj, hown, hno⟩ := hrel
            obtain ⟨wj, ewj⟩ : ∃ x, x = wr := ⟨_, rfl⟩
            subst ewj
            have HBj := Lib.hid hBj
            have Hox := Lib.hid hown
            have Hno := Lib.hid hno
            have hzj := hBj.size
            have jj0 : (0 : Int) ≤ (j : Int) := by omega
            obtain ⟨p19, q19, e19⟩ := Own.slice hown
            have el19 : (foldRow rc (la.take j) key g).length = key.length + j := by unfold foldRow; rw [List.length_append, List.length_map, List.length_take, Nat.min_eq_left hj]
            rw [el19] at e19
            subst e19
            have HBuj := Lib.hid (HBA.out.trans (hBj.mono (by omega)))
            have HBwj := Lib.hid (HBwu.out.trans (HBuj.out.mono HBwu.out.size))
            have hzwu := HBwu.out.size
            clear hBj hown hno el19
            by_cases hjt : j < la.length
            · obtain ⟨ao', cap', e', -, -, -, hc⟩ := (Sl.below Hla.out Ags.loc HBwj.out hh3).form
              injection e' with e1 e2 e3
              subst e1 e3
              obtain ⟨b2, off2, rfl, hb1, hb2, hcc⟩ := hc j hjt
              obtain ⟨cs, -, hcs, ecs⟩ := hcc j hjt
              obtain rfl : cs = Ag.enc la[j] := ecs
              have Hq : Hid (CellsAt wj b2 (off2 + j * 3) (Ag.enc la[j]) ∧ b2 < wj.heap.size) := Lib.hid ⟨hcs, by omega⟩
              have Hqg : Hid (CellsAt wj bg (og + k * 2) [.slice pg rc.length qg, .slice ph ng qh] ∧ bg < wj.heap.size) := Lib.hid ⟨Hcg.out.agree (.below HBuj.out (Nat.le_refl _)) (Nat.zero_le _) hbg3, by omega⟩
              have jjl : (j : Int) < (la.length : Int) := by omega
              have hmem : la[j] ∈ la := List.getElem_mem hjt
              have hfj := HFits.out _ hmem
              have Hst : Hid (foldRow rc (la.take (j + 1)) key g = foldRow rc (la.take j) key g ++ [tellG rc g la[j]]) := Lib.hid (foldRow_take hjt)
              have Hbe : Hid (errG rc g la[j] ≠ 0 → foldErr rc cols la l = errG rc g la[j]) := Lib.hid (Hbad.out _ hmem)
              have Hnext : Hid (errG rc g la[j] = 0 → ∀ i (hi : i < la.length), i < j + 1 → errG rc g la[i] = 0) := Lib.hid (fun h i hi hij => by
                by_cases e : i = j
                · subst e; exact h
                · exact Hno.out i hi (by omega))
              clear hcc hcs hc e2 hmem
              generalize la[j] = a at *
              obtain ⟨z, hz⟩ : ∃ z, z = tellG rc g a := ⟨_, rfl⟩
              obtain ⟨er, her⟩ : ∃ e, e = errG rc g a := ⟨_, rfl⟩
              rw [← hz] at Hst
              rw [← her] at Hbe Hnext
              have Hz := Lib.hid hz
              have Her := Lib.hid her
              clear hz her
              have Hsj := Lib.hid (Sl.below Hsg.out Strs.loc HBuj.out (Nat.le_refl _))
              have Hrj := Lib.hid (Sl.below Hrg.out rowE_loc HBuj.out (Nat.le_refl _))
              go_upto_region 29 with fail
              refine wp_region_held_drew (S := fun w' => Below wj.heap.size wj w') (by kernel_rfl) (Below.refl _ _).drew (fun hHeld => ?_)
              have Hlx : Hid ((foldRow rc (la.take j) key g).length ≤ 2000000000) := Lib.hid (by unfold foldRow; rw [List.length_append, List.length_map, List.length_take]; omega)
              refine wpAnyH_take (i := 0) (v := .slice (some ⟨b2, off2, none⟩) la.length cl) rfl (by kernel_rfl) (by kernel_rfl) (by kernel_rfl) (fun _ _ _ h => h) (Or.inl ⟨by rfl, ?_⟩) hHeld ?_
              · intro w' hSw; go_simp
              try simp only [Act.put, List.getElem_toArray, List.getElem_cons_succ, List.getElem_cons_zero, List.setIfInBounds_toArray, List.set_cons_zero, List.set_cons_succ]
              refine wpAnyH_take (i := 1) (v := .int .i64 ((j : Int))) rfl (by kernel_rfl) (by kernel_rfl) (by kernel_rfl) (fun _ _ _ h => h) (Or.inl ⟨by rfl, ?_⟩) hHeld ?_
              · intro w' hSw; go_simp
              try simp only [Act.put, List.getElem_toArray, List.getElem_cons_succ, List.getElem_cons_zero, List.setIfInBounds_toArray, List.set_cons_zero, List.set_cons_succ]
              refine wpAnyH_take (i := 2) (v := .pointer (some ⟨b2, off2 + j * 3, none⟩)) rfl (by kernel_rfl) (by kernel_rfl) (by kernel_rfl) (fun _ _ _ h => h) (Or.inl ⟨by rfl, ?_⟩) hHeld ?_
              · intro w' hSw; go_simp
              try simp only [Act.put, List.getElem_toArray, List.getElem_cons_succ, List.getElem_cons_zero, List.setIfInBounds_toArray, List.set_cons_zero, List.set_cons_succ]
              refine wpAnyH_take (i := 3) (v := .pointer (some ⟨b2, off2 + j * 3, none⟩)) rfl (by kernel_rfl) (by kernel_rfl) (by kernel_rfl) (fun _ _ _ h => h) (Or.inl ⟨by rfl, ?_⟩) hHeld ?_
              · intro w' hSw; go_simp
              try simp only [Act.put, List.getElem_toArray, List.getElem_cons_succ, List.getElem_cons_zero, List.setIfInBounds_toArray, List.set_cons_zero, List.set_cons_succ]
              refine wpAnyH_take (i := 4) (v := .int .i64 (a.op)) rfl (by kernel_rfl) (by kernel_rfl) (by kernel_rfl) (fun _ _ _ h => h) (Or.inl ⟨by rfl, ?_⟩) hHeld ?_
              · intro w' hSw; have kx := (Hq.out.1.agree (.below hSw (Nat.le_refl _)) (Nat.zero_le _) Hq.out.2).c3.1; go_simp
              try simp only [Act.put, List.getElem_toArray, List.getElem_cons_succ, List.getElem_cons_zero, List.setIfInBounds_toArray, List.set_cons_zero, List.set_cons_succ]
              refine wpAnyH_take (i := 5) (v := .slice (some ⟨bg, og, none⟩) n q13) rfl (by kernel_rfl) (by kernel_rfl) (by kernel_rfl) (fun _ _ _ h => h) (Or.inl ⟨by rfl, ?_⟩) hHeld ?_
              · intro w' hSw; go_simp
              try simp only [Act.put, List.getElem_toArray, List.getElem_cons_succ, List.getElem_cons_zero, List.setIfInBounds_toArray, List.set_cons_zero, List.set_cons_succ]
              refine wpAnyH_take (i := 6) (v := .int .i64 ((k : Int))) rfl (by kernel_rfl) (by kernel_rfl) (by kernel_rfl) (fun _ _ _ h => h) (Or.inl ⟨by rfl, ?_⟩) hHeld ?_
              · intro w' hSw; go_simp
              try simp only [Act.put, List.getElem_toArray, List.getElem_cons_succ, List.getElem_cons_zero, List.setIfInBounds_toArray, List.set_cons_zero, List.set_cons_succ]
              refine wpAnyH_take (i := 7) (v := .pointer (some ⟨bg, og + k * 2, none⟩)) rfl (by kernel_rfl) (by kernel_rfl) (by kernel_rfl) (fun _ _ _ h => h) (Or.inl ⟨by rfl, ?_⟩) hHeld ?_
              · intro w' hSw; go_simp
              try simp only [Act.put, List.getElem_toArray, List.getElem_cons_succ, List.getElem_cons_zero, List.setIfInBounds_toArray, List.set_cons_zero, List.set_cons_succ]
              refine wpAnyH_take (i := 8) (v := .agg #[.slice pg rc.length qg, .slice ph ng qh]) rfl (by kernel_rfl) (by kernel_rfl) (by kernel_rfl) (fun _ _ _ h => h) (Or.inl ⟨by rfl, ?_⟩) hHeld ?_
              · intro w' hSw; have kc := Hqg.out.1.agree (.below hSw (Nat.le_refl _)) (Nat.zero_le _) Hqg.out.2; have kx := kc.runVar (P := Tryz.prog) (t := 50) (fun _ => by kernel_rfl) (fun _ => by kernel_rfl); obtain ⟨z0, z1⟩ := kc.c2; go_simp
              try simp only [Act.put, List.getElem_toArray, List.getElem_cons_succ, List.getElem_cons_zero, List.setIfInBounds_toArray, List.set_cons_zero, List.set_cons_succ]
              refine wpAnyH_take (i := 9) (v := .slice (some ⟨b2, off2, none⟩) la.length cl) rfl (by kernel_rfl) (by kernel_rfl) (by kernel_rfl) (fun _ _ _ h => h) (Or.inl ⟨by rfl, ?_⟩) hHeld ?_
              · intro w' hSw; go_simp
              try simp only [Act.put, List.getElem_toArray, List.getElem_cons_succ, List.getElem_cons_zero, List.setIfInBounds_toArray, List.set_cons_zero, List.set_cons_succ]
              refine wpAnyH_take (i := 10) (v := .int .i64 ((j : Int))) rfl (by kernel_rfl) (by kernel_rfl) (by kernel_rfl) (fun _ _ _ h => h) (Or.inl ⟨by rfl, ?_⟩) hHeld ?_
              · intro w' hSw; go_simp
              try simp only [Act.put, List.getElem_toArray, List.getElem_cons_succ, List.getElem_cons_zero, List.setIfInBounds_toArray, List.set_cons_zero, List.set_cons_succ]
              refine wpAnyH_take (i := 11) (v := .pointer (some ⟨b2, off2 + j * 3, none⟩)) rfl (by kernel_rfl) (by kernel_rfl) (by kernel_rfl) (fun _ _ _ h => h) (Or.inl ⟨by rfl, ?_⟩) hHeld ?_
              · intro w' hSw; go_simp
              try simp only [Act.put, List.getElem_toArray, List.getElem_cons_succ, List.getElem_cons_zero, List.setIfInBounds_toArray, List.set_cons_zero, List.set_cons_succ]
              refine wpAnyH_take (i := 12) (v := .pointer (some ⟨b2, off2 + j * 3 + 1, none⟩)) rfl (by kernel_rfl) (by kernel_rfl) (by kernel_rfl) (fun _ _ _ h => h) (Or.inl ⟨by rfl, ?_⟩) hHeld ?_
              · intro w' hSw; go_simp
              try simp only [Act.put, List.getElem_toArray, List.getElem_cons_succ, List.getElem_cons_zero, List.setIfInBounds_toArray, List.set_cons_zero, List.set_cons_succ]
              refine wpAnyH_take (i := 13) (v := .string ⟨a.col.toArray⟩) rfl (by kernel_rfl) (by kernel_rfl) (by kernel_rfl) (fun _ _ _ h => h) (Or.inl ⟨by rfl, ?_⟩) hHeld ?_
              · intro w' hSw; have kx := (Hq.out.1.agree (.below hSw (Nat.le_refl _)) (Nat.zero_le _) Hq.out.2).c3.2.1; go_simp
              try simp only [Act.put, List.getElem_toArray, List.getElem_cons_succ, List.getElem_cons_zero, List.setIfInBounds_toArray, List.set_cons_zero, List.set_cons_succ]
              refine wpAnyH_ready (rs := [14, 18]) (by kernel_rfl) (by simp) ?_
              refine allCall (f := 45) (args := #[.int .i64 (a.op), .agg #[.slice pg rc.length qg, .slice ph ng qh], .string ⟨a.col.toArray⟩]) rfl (by kernel_rfl) (by kernel_rfl) ?_ ?_
              · refine refTell_any wo.heap.size wu.heap.size wo.heap.size wu.heap.size rc _ _ g _ a.op a.col wj.drew (Sl.below Hsj.out Strs.loc hHeld (by omega)) (by have := hHeld.size; omega) (by have h := Sl.below Hrj.out rowE_loc hHeld (by omega); first | exact h | (rw [Hng.out] at h; exact h)) (by have := hHeld.size; omega) (by rw [← Hng.out]; omega) Hgok.out hfj.1 hfj.2.1 hfj.2.2 (by rw [← Hng.out]; omega) _ (fun wq1 hB => ?_)
                rw [show (tellG rc g ⟨a.op, a.col, []⟩).agg = .agg #[.int .i64 z.kind, .int .i64 z.n, .string ⟨z.s.toArray⟩] by rw [Hz.out]; rfl, show errG rc g ⟨a.op, a.col, []⟩ = er from Her.out.symm]
                refine ⟨_, rfl, hHeld.trans (hB.mono hHeld.size), ?_⟩
                have hHeld2 := hHeld.trans (hB.mono hHeld.size)
                clear hHeld
                have hHeld := hHeld2
                clear hHeld2
                try replace Hbk := Lib.hid (Hbk.out.below hB Hbk.out.lt)
                clear hB
                try simp only [Act.put, List.getElem_toArray, List.getElem_cons_succ, List.getElem_cons_zero, List.setIfInBounds_toArray, List.set_cons_zero, List.set_cons_succ]
                refine wpAnyH_take (i := 15) (v := .tuple #[.agg #[.int .i64 z.kind, .int .i64 z.n, .string ⟨z.s.toArray⟩], .int .i64 er]) rfl (by kernel_rfl) (by kernel_rfl) (by kernel_rfl) (fun _ _ _ h => h) (Or.inl ⟨by rfl, ?_⟩) hHeld ?_
                · intro w' hSw; go_simp
                try simp only [Act.put, List.getElem_toArray, List.getElem_cons_succ, List.getElem_cons_zero, List.setIfInBounds_toArray, List.set_cons_zero, List.set_cons_succ]
                refine wpAnyH_take (i := 16) (v := .agg #[.int .i64 z.kind, .int .i64 z.n, .string ⟨z.s.toArray⟩]) rfl (by kernel_rfl) (by kernel_rfl) (by kernel_rfl) (fun _ _ _ h => h) (Or.inl ⟨by rfl, ?_⟩) hHeld ?_
                · intro w' hSw; go_simp
                try simp only [Act.put, List.getElem_toArray, List.getElem_cons_succ, List.getElem_cons_zero, List.setIfInBounds_toArray, List.set_cons_zero, List.set_cons_succ]
                refine wpAnyH_take (i := 17) (v := .int .i64 er) rfl (by kernel_rfl) (by kernel_rfl) (by kernel_rfl) (fun _ _ _ h => h) (Or.inl ⟨by rfl, ?_⟩) hHeld ?_
                · intro w' hSw; go_simp
                try simp only [Act.put, List.getElem_toArray, List.getElem_cons_succ, List.getElem_cons_zero, List.setIfInBounds_toArray, List.set_cons_zero, List.set_cons_succ]
                refine wpAnyH_ready (rs := [18]) (by kernel_rfl) (by simp) ?_
                refine allVal (v := .pointer (some ⟨wq1.heap.size, 0, none⟩)) (w' := wq1.alloc (.cells #[.int .i64 0, .int .i64 0, .string ⟨#[]⟩] 44)) rfl (by kernel_rfl) (by go_simp) (hHeld.alloc hHeld.size _) ?_ AllReadyH.nil
                have hHeld2 := hHeld.alloc hHeld.size (.cells #[.int .i64 0, .int .i64 0, .string ⟨#[]⟩] 44)
                have hbk := Blk.new wq1 [.int .i64 0, .int .i64 0, .string ⟨#[]⟩] 44 rfl
                obtain ⟨b21, eb21⟩ : ∃ b, b = wq1.heap.size := ⟨_, rfl⟩
                have hjb : wj.heap.size ≤ b21 := by rw [eb21]; exact hHeld.size
                generalize wq1.alloc (.cells #[.int .i64 0, .int .i64 0, .string ⟨#[]⟩] 44) = wl1 at *
                rw [← eb21] at hbk ⊢
                have Hbk := Lib.hid hbk
                clear hHeld hbk eb21
                have hHeld := hHeld2
                clear hHeld2
                try simp only [Act.put, List.getElem_toArray, List.getElem_cons_succ, List.getElem_cons_zero, List.setIfInBounds_toArray, List.set_cons_zero, List.set_cons_succ]
                refine wpAnyH_ready (rs := [19]) (by kernel_rfl) (by simp) ?_
                obtain ⟨x0, x1, x2⟩ := Hbk.out.cells.c3
                simp only [Nat.zero_add] at x1 x2
                have f0 := Hbk.out.free 0
                have f1 := Hbk.out.free 1
                have f2 := Hbk.out.free 2
                have hS1 := ((hHeld.setCell (p := ⟨b21, 0, none⟩) hjb (.int .i64 z.kind)).setCell (p := ⟨b21, 1, none⟩) hjb (.int .i64 z.n)).setCell (p := ⟨b21, 2, none⟩) hjb (.string ⟨z.s.toArray⟩)
                refine allSkip (w' := ((wl1.setCell ⟨b21, 0, none⟩ (.int .i64 z.kind)).setCell ⟨b21, 1, none⟩ (.int .i64 z.n)).setCell ⟨b21, 2, none⟩ (.string ⟨z.s.toArray⟩)) rfl (by kernel_rfl) (by go_simp) hS1 ?_ AllReadyH.nil
                have hbz := ((Hbk.out.set 0 (.int .i64 z.kind)).set 1 (.int .i64 z.n)).set 2 (.string ⟨z.s.toArray⟩)
                have hHeld := hS1
                clear hS1 x0 x1 x2 f0 f1 f2 Hbk
                generalize ((wl1.setCell ⟨b21, 0, none⟩ (.int .i64 z.kind)).setCell ⟨b21, 1, none⟩ (.int .i64 z.n)).setCell ⟨b21, 2, none⟩ (.string ⟨z.s.toArray⟩) = wl2 at *
                have Hbz := Lib.hid hbz
                clear hbz
                try simp only [Act.put, List.getElem_toArray, List.getElem_cons_succ, List.getElem_cons_zero, List.setIfInBounds_toArray, List.set_cons_zero, List.set_cons_succ]
                refine wpAnyH_take (i := 20) (v := .int .i64 er) rfl (by kernel_rfl) (by kernel_rfl) (by kernel_rfl) (fun _ _ _ h => h) (Or.inl ⟨by rfl, ?_⟩) hHeld ?_
                · intro w' hSw; go_simp
                try simp only [Act.put, List.getElem_toArray, List.getElem_cons_succ, List.getElem_cons_zero, List.setIfInBounds_toArray, List.set_cons_zero, List.set_cons_succ]
                refine wpAnyH_done (by kernel_rfl) ?_ _
                have HH := Lib.hid hHeld
                clear hHeld
                have hzf := HH.out.size
                by_cases he0 : er = 0
                · subst he0
                  have Hnx := Lib.hid (Hnext.out rfl)
                  obtain ⟨x0, x1, x2⟩ := Hbz.out.cells.c3
                  simp only [Nat.zero_add] at x1 x2
                  obtain ⟨v7, w7, hr7, ho7, ha7⟩ := appV1 (Own.kept Hox.out HH.out) z rfl (by have := Hlx.out; omega) (by omega)
                  have HB7 := Lib.hid (HBj.out.trans ((HH.out.mono hzj).trans (ha7.below (by omega) (fun q e => (Own.lt Hox.out q e).1))))
                  have Ho7 : Hid (OwnV wA.heap.size w7 v7 (foldRow rc (la.take (j + 1)) key g)) := Lib.hid (by rw [Hst.out]; exact ho7)
                  obtain ⟨p7, c7, e7⟩ := Own.slice ho7
                  subst e7
                  clear ho7 ha7
                  generalize (foldRow rc (la.take j) key g ++ [z]).length = n7 at *
                  go_wp2_with (at_builtin; refine AtApp.of ?_)
                  refine AtApp.go hr7 rfl rfl rfl rfl ?_
                  go_wp2_with fail
                  go_roundw
                  case rel => exact ⟨j + 1, by omega, by go_num, HB7.out, Ho7.out, Hnx.out⟩
                  case measure => simp [intOf]; omega
                · have hr := HR.out
                  rw [Hbe.out he0, okL_no he0, okL_no he0] at hr
                  have Hb6f := Lib.hid ((Hb2.out.below (HB3.out.trans ((HBu.out.trans (HBuj.out.mono (by omega))).mono (by omega))) hlow).below HH.out (by omega))
                  have HBwf := Lib.hid (HBwj.out.trans (HH.out.mono (by omega)))
                  have hb := Hb6f.out
                  have hB := HBwf.out
                  have f0 := hb.free 0
                  have f1 := hb.free 1
                  obtain ⟨d0, d1⟩ := hb.cells.c2
                  simp only [Nat.zero_add] at d1
                  go_wp2_with fail
                  exact ret_cell_tmp rfl rfl (((hb.set 0 (.slice none 0 0)).set 1 (.slice none 0 0)).cells.runVar (fun _ => by kernel_rfl) (fun _ => by kernel_rfl)) rfl rfl
                    (hr _ _ _ ((hB.setCell (p := ⟨b6, 0, none⟩) hb6w _).setCell (p := ⟨b6, 1, none⟩) hb6w _) (Sl.nil _ _ _ _ _) (Sl.nil _ _ _ _ _))
              refine allVal (v := .pointer (some ⟨wj.drew.heap.size, 0, none⟩)) (w' := wj.drew.alloc (.cells #[.int .i64 0, .int .i64 0, .string ⟨#[]⟩] 44)) rfl (by kernel_rfl) (by go_simp) (hHeld.alloc hHeld.size _) ?_ AllReadyH.nil
              have hHeld2 := hHeld.alloc hHeld.size (.cells #[.int .i64 0, .int .i64 0, .string ⟨#[]⟩] 44)
              have hbk := Blk.new wj.drew [.int .i64 0, .int .i64 0, .string ⟨#[]⟩] 44 rfl
              obtain ⟨b21, eb21⟩ : ∃ b, b = wj.drew.heap.size := ⟨_, rfl⟩
              have hjb : wj.heap.size ≤ b21 := by rw [eb21]; exact hHeld.size
              generalize wj.drew.alloc (.cells #[.int .i64 0, .int .i64 0, .string ⟨#[]⟩] 44) = wl3 at *
              rw [← eb21] at hbk ⊢
              have Hbk := Lib.hid hbk
              clear hHeld hbk eb21
              have hHeld := hHeld2
              clear hHeld2
              try simp only [Act.put, List.getElem_toArray, List.getElem_cons_succ, List.getElem_cons_zero, List.setIfInBounds_toArray, List.set_cons_zero, List.set_cons_succ]
              refine wpAnyH_ready (rs := [14]) (by kernel_rfl) (by simp) ?_
              refine allCall (f := 45) (args := #[.int .i64 (a.op), .agg #[.slice pg rc.length qg, .slice ph ng qh], .string ⟨a.col.toArray⟩]) rfl (by kernel_rfl) (by kernel_rfl) ?_ AllReadyH.nil
              refine refTell_any wo.heap.size wu.heap.size wo.heap.size wu.heap.size rc _ _ g _ a.op a.col wl3 (Sl.below Hsj.out Strs.loc hHeld (by omega)) (by have := hHeld.size; omega) (by have h := Sl.below Hrj.out rowE_loc hHeld (by omega); first | exact h | (rw [Hng.out] at h; exact h)) (by have := hHeld.size; omega) (by rw [← Hng.out]; omega) Hgok.out hfj.1 hfj.2.1 hfj.2.2 (by rw [← Hng.out]; omega) _ (fun wq2 hB => ?_)
              rw [show (tellG rc g ⟨a.op, a.col, []⟩).agg = .agg #[.int .i64 z.kind, .int .i64 z.n, .string ⟨z.s.toArray⟩] by rw [Hz.out]; rfl, show errG rc g ⟨a.op, a.col, []⟩ = er from Her.out.symm]
              refine ⟨_, rfl, hHeld.trans (hB.mono hHeld.size), ?_⟩
              have hHeld2 := hHeld.trans (hB.mono hHeld.size)
              clear hHeld
              have hHeld := hHeld2
              clear hHeld2
              try replace Hbk := Lib.hid (Hbk.out.below hB Hbk.out.lt)
              clear hB
              try simp only [Act.put, List.getElem_toArray, List.getElem_cons_succ, List.getElem_cons_zero, List.setIfInBounds_toArray, List.set_cons_zero, List.set_cons_succ]
              refine wpAnyH_take (i := 15) (v := .tuple #[.agg #[.int .i64 z.kind, .int .i64 z.n, .string ⟨z.s.toArray⟩], .int .i64 er]) rfl (by kernel_rfl) (by kernel_rfl) (by kernel_rfl) (fun _ _ _ h => h) (Or.inl ⟨by rfl, ?_⟩) hHeld ?_
              · intro w' hSw; go_simp
              try simp only [Act.put, List.getElem_toArray, List.getElem_cons_succ, List.getElem_cons_zero, List.setIfInBounds_toArray, List.set_cons_zero, List.set_cons_succ]
              refine wpAnyH_take (i := 16) (v := .agg #[.int .i64 z.kind, .int .i64 z.n, .string ⟨z.s.toArray⟩]) rfl (by kernel_rfl) (by kernel_rfl) (by kernel_rfl) (fun _ _ _ h => h) (Or.inl ⟨by rfl, ?_⟩) hHeld ?_
              · intro w' hSw; go_simp
              try simp only [Act.put, List.getElem_toArray, List.getElem_cons_succ, List.getElem_cons_zero, List.setIfInBounds_toArray, List.set_cons_zero, List.set_cons_succ]
              refine wpAnyH_take (i := 17) (v := .int .i64 er) rfl (by kernel_rfl) (by kernel_rfl) (by kernel_rfl) (fun _ _ _ h => h) (Or.inl ⟨by rfl, ?_⟩) hHeld ?_
              · intro w' hSw; go_simp
              try simp only [Act.put, List.getElem_toArray, List.getElem_cons_succ, List.getElem_cons_zero, List.setIfInBounds_toArray, List.set_cons_zero, List.set_cons_succ]
              refine wpAnyH_ready (rs := [19]) (by kernel_rfl) (by simp) ?_
              obtain ⟨x0, x1, x2⟩ := Hbk.out.cells.c3
              simp only [Nat.zero_add] at x1 x2
              have f0 := Hbk.out.free 0
              have f1 := Hbk.out.free 1
              have f2 := Hbk.out.free 2
              have hS1 := ((hHeld.setCell (p := ⟨b21, 0, none⟩) hjb (.int .i64 z.kind)).setCell (p := ⟨b21, 1, none⟩) hjb (.int .i64 z.n)).setCell (p := ⟨b21, 2, none⟩) hjb (.string ⟨z.s.toArray⟩)
              refine allSkip (w' := ((wq2.setCell ⟨b21, 0, none⟩ (.int .i64 z.kind)).setCell ⟨b21, 1, none⟩ (.int .i64 z.n)).setCell ⟨b21, 2, none⟩ (.string ⟨z.s.toArray⟩)) rfl (by kernel_rfl) (by go_simp) hS1 ?_ AllReadyH.nil
              have hbz := ((Hbk.out.set 0 (.int .i64 z.kind)).set 1 (.int .i64 z.n)).set 2 (.string ⟨z.s.toArray⟩)
              have hHeld := hS1
              clear hS1 x0 x1 x2 f0 f1 f2 Hbk
              generalize ((wq2.setCell ⟨b21, 0, none⟩ (.int .i64 z.kind)).setCell ⟨b21, 1, none⟩ (.int .i64 z.n)).setCell ⟨b21, 2, none⟩ (.string ⟨z.s.toArray⟩) = wl4 at *
              have Hbz := Lib.hid hbz
              clear hbz
              try simp only [Act.put, List.getElem_toArray, List.getElem_cons_succ, List.getElem_cons_zero, List.setIfInBounds_toArray, List.set_cons_zero, List.set_cons_succ]
              refine wpAnyH_take (i := 20) (v := .int .i64 er) rfl (by kernel_rfl) (by kernel_rfl) (by kernel_rfl) (fun _ _ _ h => h) (Or.inl ⟨by rfl, ?_⟩) hHeld ?_
              · intro w' hSw; go_simp
              try simp only [Act.put, List.getElem_toArray, List.getElem_cons_succ, List.getElem_cons_zero, List.setIfInBounds_toArray, List.set_cons_zero, List.set_cons_succ]
              refine wpAnyH_done (by kernel_rfl) ?_ _
              have HH := Lib.hid hHeld
              clear hHeld
              have hzf := HH.out.size
              by_cases he0 : er = 0
              · subst he0
                have Hnx := Lib.hid (Hnext.out rfl)
                obtain ⟨x0, x1, x2⟩ := Hbz.out.cells.c3
                simp only [Nat.zero_add] at x1 x2
                obtain ⟨v7, w7, hr7, ho7, ha7⟩ := appV1 (Own.kept Hox.out HH.out) z rfl (by have := Hlx.out; omega) (by omega)
                have HB7 := Lib.hid (HBj.out.trans ((HH.out.mono hzj).trans (ha7.below (by omega) (fun q e => (Own.lt Hox.out q e).1))))
                have Ho7 : Hid (OwnV wA.heap.size w7 v7 (foldRow rc (la.take (j + 1)) key g)) := Lib.hid (by rw [Hst.out]; exact ho7)
                obtain ⟨p7, c7, e7⟩ := Own.slice ho7
                subst e7
                clear ho7 ha7
                generalize (foldRow rc (la.take j) key g ++ [z]).length = n7 at *
                go_wp2_with (at_builtin; refine AtApp.of ?_)
                refine AtApp.go hr7 rfl rfl rfl rfl ?_
                go_wp2_with fail
                go_roundw
                case rel => exact ⟨j + 1, by omega, by go_num, HB7.out, Ho7.out, Hnx.out⟩
                case measure => simp [intOf]; omega
              · have hr := HR.out
                rw [Hbe.out he0, okL_no he0, okL_no he0] at hr
                have Hb6f := Lib.hid ((Hb2.out.below (HB3.out.trans ((HBu.out.trans (HBuj.out.mono (by omega))).mono (by omega))) hlow).below HH.out (by omega))
                have HBwf := Lib.hid (HBwj.out.trans (HH.out.mono (by omega)))
                have hb := Hb6f.out
                have hB := HBwf.out
                have f0 := hb.free 0
                have f1 := hb.free 1
                obtain ⟨d0, d1⟩ := hb.cells.c2
                simp only [Nat.zero_add] at d1
                go_wp2_with fail
                exact ret_cell_tmp rfl rfl (((hb.set 0 (.slice none 0 0)).set 1 (.slice none 0 0)).cells.runVar (fun _ => by kernel_rfl) (fun _ => by kernel_rfl)) rfl rfl
                  (hr _ _ _ ((hB.setCell (p := ⟨b6, 0, none⟩) hb6w _).setCell (p := ⟨b6, 1, none⟩) hb6w _) (Sl.nil _ _ _ _ _) (Sl.nil _ _ _ _ _))
            · obtain rfl : j = la.length := by omega
              have jlj : ¬ ((la.length : Nat) : Int) < (la.length : Int) := by omega
              have hox := Hox.out
              rw [List.take_length] at hox
              have Hallg : Hid (∀ a ∈ la, errG rc g a = 0) := Lib.hid (fun a ha => by
                obtain ⟨i, hi, rfl⟩ := List.getElem_of_mem ha
                exact Hno.out i hi hi)
              have hRj := HR15.out.kept HBuj.out
              have hlH : hs.length ≤ 5000000000000 := by rw [Hel15.out]; omega
              obtain ⟨v8, w8, hr8, ho8, ha8⟩ := appH1 hRj.own p19 (key.length + la.length) q19 rfl hlH (by omega)
              have hBal := alloc_below wj (.cells #[.slice p19 (key.length + la.length) q19] 36)
              have hsn := OwnR.snoc hRj (Own.lower hox (by omega)) (fun q hq e => by
                have h1 := (Own.lt hox q hq).1
                have h2 := (Own.lt HR15.out.own q e).2
                omega) ho8 ha8
              rw [← Hrow.out] at hsn
              have HR8 := Lib.hid hsn
              have HB8 := Lib.hid (HBu.out.trans ((HBuj.out.mono (by omega)).trans (ha8.below (B := w3.heap.size) (by omega) (fun q e => (Own.lt HR15.out.own q e).1))))
              obtain ⟨p8, c8, e8⟩ := Own.slice ho8
              subst e8
              clear hox hRj ho8 ha8 hsn hBal
              generalize (hs ++ [Value.slice p19 (key.length + la.length) q19]).length = n8 at *
              go_wp2_with (at_builtin; refine AtApp.of ?_)
              refine AtApp.go hr8 rfl rfl rfl rfl ?_
              go_wp2_with fail
              go_roundw
              case rel => exact ⟨k + 1, by omega, by go_num, HB8.out, ⟨_, HR8.out⟩, Hgn.out Hallg.out⟩
              case measure => simp [intOf]; omega
        · obtain rfl : k = n := by omega
          have klk : ¬ ((k : Nat) : Int) < (k : Int) := by omega
          have hRn := HR15.out
          have hfr : (foldRows rc cols la l).length = k := by unfold foldRows; rw [List.length_map, ← Hks.out]
          rw [List.take_of_length_le (by omega)] at hRn
          have hfo : foldOk rc cols la l = true := fold_good (fun key hkm a ha => by
            obtain ⟨i, hi, rfl⟩ := List.getElem_of_mem hkm
            exact Hgood.out i hi (by rw [Hks.out]; exact hi) a ha)
          have He : Hid (foldErr rc cols la l = ofErr (foldCols cols la) (foldRows rc cols la l)) := Lib.hid (by rw [He1.out, hfo]; rfl)
          have hst9 := Sl.below (OwnT.sl Hown3.out) Strs.loc HBu.out (Nat.le_refl _)
          have hrws := OwnR.rws hRn
          have hnt2 : (foldCols cols la).length = nt := by unfold foldCols; rw [List.length_append, List.length_map]; exact Hnt.out
          rw [← hnt2] at hst9 ⊢
          have hb6u := Hb2.out.below (HB3.out.trans (HBu.out.mono (by omega))) hlow
          have Hb6u := Lib.hid hb6u
          rw [← hfr] at hrws klk ⊢
          rw [He.out] at HR
          have Hst9 := Lib.hid hst9
          have Hrws := Lib.hid hrws
          have Hrl : Hid (∀ x ∈ foldRows rc cols la l, x.length ≤ 4000000000000) := Lib.hid (fun x hx => by rw [rows_len x hx]; have := Hnt.out; omega)
          have Hrsm : Hid (∀ x ∈ foldRows rc cols la l, ∀ a ∈ x, a.s.length ≤ 9223372036854775807) := Lib.hid (row_small Hrs.out)
          have hkl9 : (foldRows rc cols la l).length ≤ 1000000000000 := by omega
          clear hRn hfr hfo hst9 hrws hnt2 hb6u Hgood HR15 Hel15 hk hlt
          generalize foldRows rc cols la l = FR at *
          generalize foldCols cols la = FC at *
          go_wp2_with fail
          refine refOf_any w3.heap.size wu.heap.size w2.heap.size w3.heap.size FC _ _ FR _ wu Hst9.out (by omega) Hrws.out (Nat.le_refl _) hkl9 Hrl.out Hrsm.out _ (fun hbad w8 hB8 => ?_) (fun h8 w8 lv8 hB8 hR8 => ?_)
          · have hr := HR.out
            rw [okL_no hbad, okL_no hbad] at hr
            have Hb8 := Lib.hid (Hb6u.out.below hB8 (by omega))
            have HB8 := Lib.hid (HBwu.out.trans (hB8.mono HBwu.out.size))
            clear hB8 hbad
            generalize ofErr FC FR = er at *
            have hb := Hb8.out
            have hB := HB8.out
            have f0 := hb.free 0
            have f1 := hb.free 1
            obtain ⟨d0, d1⟩ := hb.cells.c2
            simp only [Nat.zero_add] at d1
            go_wp2_with fail
            exact ret_cell_tmp rfl rfl (((hb.set 0 (.slice none 0 0)).set 1 (.slice none 0 0)).cells.runVar (fun _ => by kernel_rfl) (fun _ => by kernel_rfl)) rfl rfl
              (hr _ _ _ ((hB.setCell (p := ⟨b6, 0, none⟩) hb6w _).setCell (p := ⟨b6, 1, none⟩) hb6w _) (Sl.nil _ _ _ _ _) (Sl.nil _ _ _ _ _))
          · have hr := HR.out
            rw [h8, okL_ok rfl, okL_ok rfl] at hr
            obtain ⟨p8, q8, rfl, -, -, -, -⟩ := hR8.form
            have hb := Hb6u.out.below hB8 (by omega)
            have hB := HBwu.out.trans (hB8.mono HBwu.out.size)
            have f0 := hb.free 0
            have f1 := hb.free 1
            obtain ⟨d0, d1⟩ := hb.cells.c2
            simp only [Nat.zero_add] at d1
            have hz8 := hB8.size
            have hO := (Only.setCell (A := fun b => b = b6) w8 (p := ⟨b6, 0, none⟩) rfl (.slice p9 FC.length q9)).trans (Only.setCell (A := fun b => b = b6) _ (p := ⟨b6, 1, none⟩) rfl (.slice p8 (relCanon FR).length q8))
            have hoz := hO.size
            have hs9 := (Sl.agree (Sl.below Hst9.out Strs.loc hB8 (by omega)) Strs.loc (fun b b1 b2 => hO.block b (by omega) (fun (e : b = b6) => by omega))).mono Strs.loc (Nat.zero_le _) (Nat.le_trans (Nat.le_trans hzu hz8) hoz)
            have hr9 := (Sl.agree hR8 rowE_loc (fun b b1 b2 => hO.block b (by omega) (fun (e : b = b6) => by omega))).mono rowE_loc (Nat.zero_le _) hoz
            have hbf := (hb.set 0 (.slice p9 FC.length q9)).set 1 (.slice p8 (relCanon FR).length q8)
            have hBf := (hB.setCell (p := ⟨b6, 0, none⟩) hb6w (.slice p9 FC.length q9)).setCell (p := ⟨b6, 1, none⟩) hb6w (.slice p8 (relCanon FR).length q8)
            have Hs9 := Lib.hid hs9
            have Hr9 := Lib.hid hr9
            have Hbf := Lib.hid hbf
            have HBf := Lib.hid hBf
            clear hs9 hr9 hbf hBf hO hoz hR8 hb hB hB8 h8
            generalize (relCanon FR).length = m8 at *
            go_wp2_with fail
            exact ret_cell_tmp rfl rfl (Hbf.out.cells.runVar (fun _ => by kernel_rfl) (fun _ => by kernel_rfl)) rfl rfl (hr _ _ _ HBf.out Hs9.out Hr9.out)
end Go.Proofs.YtmconajkgjfplaaGreat
end

/- The document's tellings, one behind the other. -/
section
set_option linter.unusedVariables false
set_option linter.unusedSimpArgs false
namespace Go.Proofs.YtmconajkgjfplaaGreat
open Go.RowKit
set_option linter.unusedVariables false
set_option linter.unusedSimpArgs false
theorem infoAg : (Tryz.prog.info? 48).map (fun i => (i.zero, i.size, i.bytes)) = some (some (.agg #[.int .i64 0, .string ⟨#[]⟩, .string ⟨#[]⟩]), 3, 40) := by kernel_rfl
abbrev OwnAg := Own Ag.enc 48 3
theorem OwnAg.sl {lo : Nat} {w : World} {v : Value} {xs : List Ag} (h : OwnAg lo w v xs) : Ags lo w.heap.size w v xs := Sl.ofOwn (fun _ => rfl) h
theorem oneAg : ∀ x : Ag, ∀ u ∈ Ag.enc x, u.oneCell' = true := fun x u hu => by
  simp only [Ag.enc, List.mem_cons, List.not_mem_nil, or_false] at hu
  rcases hu with rfl | rfl | rfl <;> rfl
/-- One telling behind others of a call's own. -/
theorem appAg1 {w : World} {lo : Nat} {v : Value} {xs : List Ag} (h : OwnAg lo w v xs) (x : Ag) {n : Nat} (hn : n = w.heap.size) (hb : xs.length ≤ 1000000000000) (hlo : lo ≤ w.heap.size) :
    ∃ v' w', (Builtin.append_ #[47, 47] 47 #[v, .slice (some ⟨n, 0, none⟩) 1 1]).run Tryz.prog (w.alloc (.cells #[.int .i64 x.op, .string ⟨x.col.toArray⟩, .string ⟨x.nm.toArray⟩] 48)) = .ok v' w' ∧ OwnAg lo w' v' (xs ++ [x]) ∧ Appended w v w' v' := by
  subst hn
  have hB : Below w.heap.size w (w.alloc (.cells (Ag.enc x).toArray 48)) := (Below.refl _ _).alloc (Nat.le_refl _) _
  obtain ⟨i0, hi, hz0, hz1, hz2⟩ := info_parts infoAg
  have hc := CellsAt.newAt w (Ag.enc x) 48 rfl
  have hs : Src Tryz.prog 3 47 (.slice (some ⟨w.heap.size, 0, none⟩) 1 1) [x].length ([x].flatMap Ag.enc) (w.alloc (.cells (Ag.enc x).toArray 48)) :=
    Src.ofSlice _ Tryz.underlying47 _ _ _ _ (by simp [Ag.enc]) (fun j u hu => by rw [Addr.add_lit]; exact hc j u (by simpa using hu)) (fun u hu => by
      rw [List.flatMap_cons, List.flatMap_nil, List.append_nil] at hu
      exact oneAg x u hu)
  obtain ⟨v', w', hr, ho, ha⟩ := (Own.kept h hB).app _ _ _ i0 _ 40 Tryz.underlying47 hi hz0 hz1 hz2 rfl hs (by simp only [List.length_cons, List.length_nil]; omega) (by omega) (Nat.le_trans hlo hB.size)
  exact ⟨v', w', hr, ho, (Appended.step v hB).trans ha⟩
end Go.Proofs.YtmconajkgjfplaaGreat
end

/- fold.Fold. (Printed by fldz.py.) -/
section
set_option linter.unusedVariables false
set_option linter.unusedSimpArgs false
namespace Go.Proofs.YtmconajkgjfplaaGreat
open Go.RowKit Go.Shelf
set_option linter.unusedVariables false
set_option linter.unusedSimpArgs false
attribute [local go_sem] Oper.semAt_some
theorem OwnR.onlyLow {A : Nat → Prop} {lo : Nat} {w w' : World} {v : Value} {hs : List Value} {xs : List (List V)} (h : OwnR lo w v hs xs) (hO : Only A w w') (hA : ∀ b, A b → b < lo) : OwnR lo w' v hs xs :=
  ⟨Own.same h.own (fun g e => hO.block g (Own.lt h.own g e).2 (fun hz => by have := hA g hz; have := (Own.lt h.own g e).1; omega)), h.len, fun i hi hi2 => Own.same (h.row i hi hi2) (fun g e => hO.block g (Own.lt (h.row i hi hi2) g e).2 (fun hz => by have := hA g hz; have := (Own.lt (h.row i hi hi2) g e).1; omega)), h.apart⟩
theorem OwnR.onlyOut {A : Nat → Prop} {lo : Nat} {w w' : World} {v : Value} {hs : List Value} {xs : List (List V)} (h : OwnR lo w v hs xs) (hO : Only A w w') (hA : ∀ b, A b → b < lo ∨ w.heap.size ≤ b) : OwnR lo w' v hs xs :=
  ⟨Own.same h.own (fun g e => hO.block g (Own.lt h.own g e).2 (fun hz => by have := hA g hz; have := Own.lt h.own g e; omega)), h.len, fun i hi hi2 => Own.same (h.row i hi hi2) (fun g e => hO.block g (Own.lt (h.row i hi hi2) g e).2 (fun hz => by have := hA g hz; have := Own.lt (h.row i hi hi2) g e; omega)), h.apart⟩
theorem Own.onlyLow {α : Type} {enc : α → List Value} {e : TypeId} {size : Nat} {A : Nat → Prop} {lo : Nat} {w w' : World} {v : Value} {xs : List α} (h : Own enc e size lo w v xs) (hO : Only A w w') (hA : ∀ b, A b → b < lo) : Own enc e size lo w' v xs :=
  Own.same h (fun g e => hO.block g (Own.lt h g e).2 (fun hz => by have := hA g hz; have := (Own.lt h g e).1; omega))
/-- The end of Fold: its result cells are written; the marks are taken, the cells read. -/
theorem fdLeave {n : Nat} {fn : Func} {tmps : Array Value} {w w7 : World} {b6 b7 lo : Nat} {cv lv : Value} {cols : List S} {rs : List (List V)} {hs : List Value} {err : Int} {Ds : List Nat} {R : Ending → World → Prop} (hfn : fn.results = #[.cell 6 25, .cell 7 29])
    (ht6 : tmps.getD 6 undef = .pointer (some ⟨b6, 0, none⟩)) (ht7 : tmps.getD 7 undef = .pointer (some ⟨b7, 0, none⟩)) (hb6 : Blk w7 b6 [cv, lv] 25) (hb7 : Blk w7 b7 [.int .i64 err] 29) (hB : Below w.heap.size w w7)
    (hT : OwnT lo w7 cv cols) (hL : OwnR lo w7 lv hs rs) (hlo : w.heap.size ≤ lo) (hnd : Ds.Nodup) (hds : ∀ D ∈ Ds, w.heap.size ≤ D ∧ D < lo ∧ w7.heap[D]? = some (.deferred (some [])))
    (hRR : ∀ w', Below w.heap.size w w' → OwnT w.heap.size w' cv cols → OwnR w.heap.size w' lv hs rs → R (.returned (.tuple #[.agg #[cv, lv], .int .i64 err])) w') :
    LeavesInM Fence.wide n Tryz.prog fn tmps R (Ds.map markD) .returning w7 := by
  refine marks_leave Ds w7 hnd (fun D hD => (hds D hD).2.2) (fun w' ho => ?_)
  have hA : ∀ D, D ∈ Ds → ∃ o, w7.heap[D]? = some o ∧ o.isCells = false := fun D hD => ⟨_, (hds D hD).2.2, rfl⟩
  exact ⟨_, results_cells hfn ht6 ht7 ((hb6.turns hA ho).cells.runVar (fun _ => by kernel_rfl) (fun _ => by kernel_rfl)) ((hb7.turns hA ho).cells.runVar1 (fun _ => by kernel_rfl)),
    hRR w' (hB.trans (ho.below hB.size (fun D hD => (hds D hD).1))) (Own.lower (Own.onlyLow hT ho (fun D hD => (hds D hD).2.1)) hlo) ((hL.onlyLow ho (fun D hD => (hds D hD).2.1)).lower hlo)⟩
theorem fdTail {n : Nat} {fn : Func} {tmps : Array Value} {w w5 : World} {b6 b7 lo : Nat} {cv lv x0 x1 y0 : Value} {cols : List S} {rs : List (List V)} {hs : List Value} {err : Int} {Ds : List Nat} {R : Ending → World → Prop} (hfn : fn.results = #[.cell 6 25, .cell 7 29])
    (ht6 : tmps.getD 6 undef = .pointer (some ⟨b6, 0, none⟩)) (ht7 : tmps.getD 7 undef = .pointer (some ⟨b7, 0, none⟩)) (hb6 : Blk w5 b6 [x0, x1] 25) (hb7 : Blk w5 b7 [y0] 29) (h67 : b6 ≠ b7) (hlo6 : w.heap.size ≤ b6) (hlo7 : w.heap.size ≤ b7) (hB : Below w.heap.size w w5)
    (hT : OwnT lo w5 cv cols) (hL : OwnR lo w5 lv hs rs) (h6 : b6 < lo) (h7 : b7 < lo) (hlo : w.heap.size ≤ lo) (hnd : Ds.Nodup) (hds : ∀ D ∈ Ds, w.heap.size ≤ D ∧ D < lo ∧ w5.heap[D]? = some (.deferred (some [])))
    (hRR : ∀ w', Below w.heap.size w w' → OwnT w.heap.size w' cv cols → OwnR w.heap.size w' lv hs rs → R (.returned (.tuple #[.agg #[cv, lv], .int .i64 err])) w') :
    LeavesInM Fence.wide n Tryz.prog fn tmps R (Ds.map markD) .returning (((w5.setCell ⟨b6, 0, none⟩ cv).setCell ⟨b6, 1, none⟩ lv).setCell ⟨b7, 0, none⟩ (.int .i64 err)) := by
  have hO : Only (fun z => z = b6 ∨ z = b7) w5 (((w5.setCell ⟨b6, 0, none⟩ cv).setCell ⟨b6, 1, none⟩ lv).setCell ⟨b7, 0, none⟩ (.int .i64 err)) :=
    ((Only.setCell (A := fun z => z = b6 ∨ z = b7) w5 (p := ⟨b6, 0, none⟩) (.inl rfl) cv).trans (Only.setCell _ (p := ⟨b6, 1, none⟩) (.inl rfl) lv)).trans (Only.setCell _ (p := ⟨b7, 0, none⟩) (.inr rfl) (.int .i64 err))
  have k6 : Blk (((w5.setCell ⟨b6, 0, none⟩ cv).setCell ⟨b6, 1, none⟩ lv).setCell ⟨b7, 0, none⟩ (.int .i64 err)) b6 [cv, lv] 25 := ((hb6.set 0 cv).set 1 lv).other h67 _
  have k7 : Blk (((w5.setCell ⟨b6, 0, none⟩ cv).setCell ⟨b6, 1, none⟩ lv).setCell ⟨b7, 0, none⟩ (.int .i64 err)) b7 [.int .i64 err] 29 := ((hb7.other (p := ⟨b6, 0, none⟩) (Ne.symm h67) cv).other (p := ⟨b6, 1, none⟩) (Ne.symm h67) lv).set 0 (.int .i64 err)
  have hA : ∀ b, (fun z => z = b6 ∨ z = b7) b → b < lo := fun b hb => by rcases hb with rfl | rfl <;> assumption
  refine fdLeave hfn ht6 ht7 k6 k7 (hB.trans (hO.below hB.size (fun b hb => by rcases hb with rfl | rfl <;> assumption))) (Own.onlyLow hT hO hA) (hL.onlyLow hO hA) hlo hnd (fun D hD => ?_) hRR
  obtain ⟨q1, q2, q3⟩ := hds D hD
  refine ⟨q1, q2, (hO.block D (heap_lt q3) (fun hz => ?_)).trans q3⟩
  rcases hz with rfl | rfl
  · unfold Blk at hb6; rw [hb6] at q3; cases q3
  · unfold Blk at hb7; rw [hb7] at q3; cases q3
/-- What the rounds of Fold keep. -/
structure FdJ (L D bo : Nat) (W5 : World) (rc : Obj) (T : List (List V)) (G : Nat → Prop) (k g : Nat) (W : World) : Prop where
  lp : W.heap[L]? = some rc
  df : W.heap[D]? = some (.deferred (some []))
  on : Only (fun z => z = bo ∨ z = L) W5 W
  ge : W5.heap.size ≤ g
  out : ∃ v hs, Blk W bo [v] 23 ∧ OwnR W5.heap.size W v hs (T.take k) ∧ v.ownBlock ≠ some g
  good : ∀ j, j < k → G j
/-- What is left where a telling fails. -/
def FdZ (N : Prop) (L D b6 b7 : Nat) (w : World) (rc : Obj) (W : World) : Prop := N ∧ W.heap[L]? = some rc ∧ W.heap[D]? = some (.deferred (some [])) ∧ Below w.heap.size w W ∧ Blk W b6 [.slice none 0 0, .slice none 0 0] 25 ∧ Blk W b7 [.int .i64 160] 29
set_option maxRecDepth 1000000 in
set_option maxHeartbeats 16000000 in
theorem Fold_any (lo hi lc hc l2 h2 l3 h3 : Nat) (rc : List S) (ac : Option Addr) (cc : Nat) (l : List (List V)) (lv : Value) (cols : List S) (cv : Value) (la : List Ag) (lav : Value) (w : World) (hrc : Strs lc hc w (.slice ac rc.length cc) rc) (hhc : hc ≤ w.heap.size) (hv : Rws lo hi w lv l) (hhi : hi ≤ w.heap.size) (hcols : Strs l2 h2 w cv cols) (hh2 : h2 ≤ w.heap.size) (hla : Ags l3 h3 w lav la) (hh3 : h3 ≤ w.heap.size) (hlen : cols.length ≤ 1000000000) (hll : la.length ≤ 1000000000) (hl1 : l.length ≤ 1000) (hok : ∀ x ∈ l, ∀ a ∈ x, a.ok) (R : Ending → World → Prop)
    (hR : ∀ w' cv' lv' hs', Below w.heap.size w w' → OwnT w.heap.size w' cv' (okL (foldErr rc cols la l) (foldCols cols la)) → OwnR w.heap.size w' lv' hs' (okL (foldErr rc cols la l) (relCanon (foldRows rc cols la l))) → R (.returned (.tuple #[.agg #[cv', lv'], .int .i64 (foldErr rc cols la l)])) w') :
    Calls Tryz.prog 12 #[.agg #[.slice ac rc.length cc, lv], cv, lav] w R := by
  have HR := Lib.hid hR
  have Hv := Lib.hid hv
  have Hrc := Lib.hid hrc
  have Ho := Lib.hid hcols
  have Hla := Lib.hid hla
  have Hok := Lib.hid hok
  obtain ⟨av, av2, rfl, -, -, -, -⟩ := hv.form
  obtain ⟨ak, ck, rfl, -, -, -, -⟩ := hcols.form
  obtain ⟨al, cl, rfl, -, -, -, -⟩ := hla.form
  have hrl63 := hrc.len
  clear hR hv hrc hcols hla hok
  obtain ⟨wa, ewa⟩ : ∃ x, x = w.alloc (.cells #[.slice ac rc.length cc, .slice av l.length av2] 25) := ⟨_, rfl⟩
  obtain ⟨wb, ewb⟩ : ∃ x, x = wa.alloc (.cells #[.slice al la.length cl] 42) := ⟨_, rfl⟩
  obtain ⟨wc, ewc⟩ : ∃ x, x = wb.alloc (.cells #[.slice none 0 0, .slice none 0 0] 25) := ⟨_, rfl⟩
  obtain ⟨w2, ew2⟩ : ∃ x, x = wc.alloc (.cells #[.int .i64 0] 29) := ⟨_, rfl⟩
  have sa : wa.heap.size = w.heap.size + 1 := by rw [ewa]; simp
  have sb : wb.heap.size = w.heap.size + 1 + 1 := by rw [ewb]; simp [sa]
  have sc : wc.heap.size = w.heap.size + 1 + 1 + 1 := by rw [ewc]; simp [sb]
  have hBa : Below w.heap.size w wa := by rw [ewa]; exact alloc_below _ _
  have hBb : Below wa.heap.size wa wb := by rw [ewb]; exact alloc_below _ _
  have hBc : Below wb.heap.size wb wc := by rw [ewc]; exact alloc_below _ _
  have hBd : Below wc.heap.size wc w2 := by rw [ew2]; exact alloc_below _ _
  have hb0 : Blk wa w.heap.size [.slice ac rc.length cc, .slice av l.length av2] 25 := by rw [ewa]; exact Blk.new w [.slice ac rc.length cc, .slice av l.length av2] _ rfl
  have hb1 : Blk wb (w.heap.size + 1) [.slice al la.length cl] 42 := by rw [ewb]; exact Blk.new wa [.slice al la.length cl] _ sa.symm
  have hb6 : Blk wc (w.heap.size + 1 + 1) [.slice none 0 0, .slice none 0 0] 25 := by rw [ewc]; exact Blk.new wb [.slice none 0 0, .slice none 0 0] _ sb.symm
  have hb7 : Blk w2 (w.heap.size + 1 + 1 + 1) [.int .i64 0] 29 := by rw [ew2]; exact Blk.new wc [.int .i64 0] _ sc.symm
  have hBcd := hBc.trans (hBd.mono hBc.size)
  have hBbcd := hBb.trans (hBcd.mono hBb.size)
  have hb0 := hb0.below hBbcd hb0.lt
  have hb1 := hb1.below hBcd hb1.lt
  have hb6 := hb6.below hBd hb6.lt
  have hB := hBa.trans (hBbcd.mono hBa.size)
  refine (callsIn_wide (n := 3)).1 (callsIn_of_wp_marks Tryz.func12 rfl trivial ?_ rfl)
  refine wpIn_wide.2 ?_
  simp only [Tryz.ntmps12, List.size_toArray, List.length_cons, Nat.reduceAdd, Nat.reduceSub, Array.replicate_succ, Array.replicate_zero, List.push_toArray, List.append_toArray, List.nil_append, List.cons_append, List.length_nil]
  go_upto_region 1 with fail
  rw [← ewa, ← ewb, ← ewc, ← ew2]
  clear ewa ewb ewc ew2 hBa hBb hBc hBd hBcd hBbcd sa sb sc
  have HB := Lib.hid hB
  have Hb0 := Lib.hid hb0
  have Hb1 := Lib.hid hb1
  have Hb6 := Lib.hid hb6
  have Hb7 := Lib.hid hb7
  have hz2 := hB.size
  have hl7 := hb7.lt
  obtain ⟨c0, c1⟩ := hb0.cells.c2
  simp only [Nat.zero_add] at c1
  clear hb0 hb1 hb6 hb7 hB
  go_wp2_with fail
  refine fplaces_any lo hi lc hc l2 h2 rc _ _ l _ cols _ w2 (Sl.below Hrc.out Strs.loc HB.out hhc) (by omega) (Sl.below Hv.out rowE_loc HB.out hhi) (by omega) (Sl.below Ho.out Strs.loc HB.out hh2) (by omega) (by omega) _ (fun hno x3 hB3 => ?_) (fun hyes x3 v3 hB3 ho3 => ?_)
  · have hz3 := hB3.size
    have HB3 := Lib.hid (HB.out.trans (hB3.mono hz2))
    have Hb03 := Lib.hid (Hb0.out.below hB3 (by omega))
    have Hb13 := Lib.hid (Hb1.out.below hB3 (by omega))
    have Hb63 := Lib.hid (Hb6.out.below hB3 (by omega))
    have Hb73 := Lib.hid (Hb7.out.below hB3 hl7)
    have he : foldErr rc cols la l = 2 := by unfold foldErr; rw [hno]; rfl
    have HR2 := HR.out
    rw [he] at HR2
    clear he hno hB3 c0 c1 Hb0 Hb1 Hb6 Hb7
    obtain ⟨c0, c1⟩ := Hb03.out.cells.c2
    simp only [Nat.zero_add] at c1
    have c2 := Hb13.out.cells.c1
    have HR2' := Lib.hid HR2
    clear HR2
    go_wp2_with fail
    refine fright_any lc hc l2 h2 l3 h3 rc _ _ _ _ _ cols _ la _ x3 (Sl.below Hrc.out Strs.loc HB3.out hhc) (by omega) (Sl.below Ho.out Strs.loc HB3.out hh2) (by omega) (Sl.below Hla.out Ags.loc HB3.out hh3) (by omega) (by omega) (by omega) _ (fun _ x4 hB4 => ?_) (fun _ x4 tv iv hB4 hot hoi => ?_)
    · have hz4 := hB4.size
      have HBx4 := Lib.hid (HB3.out.trans (hB4.mono (by omega)))
      have hBx := alloc_below x4 (.cells #[.slice none 0 0] 58)
      have hB45 := hB4.trans (hBx.mono hz4)
      go_upto_region 3 with fail
      generalize x4.alloc (.cells #[.slice none 0 0] 58) = x5 at *
      have hz5 := hBx.size
      have HB5 := Lib.hid (HB3.out.trans (hB45.mono (by omega)))
      have Hb65 := Lib.hid (Hb63.out.below hB45 (by omega))
      have Hb75 := Lib.hid (Hb73.out.below hB45 (by omega))
      have HR2 := HR2'.out
      clear hBx hB45 hB4 c0 c1 c2
      have d6 := Hb65.out
      have d7 := Hb75.out
      obtain ⟨e0, e1⟩ := d6.cells.c2
      simp only [Nat.zero_add] at e1
      have e2 := d7.cells.c1
      have f0 := d6.free 0
      have f1 := d6.free 1
      have f2 := d7.free 0
      have HT := Lib.hid (fun (fn : Func) (tmps : Array Value) hfn ht6 ht7 => fdTail (n := 3) (fn := fn) (tmps := tmps) (R := R) (lo := x5.heap.size) (cv := .slice none 0 0) (lv := .slice none 0 0) (cols := []) (rs := []) (hs := []) (err := 2) (Ds := []) hfn ht6 ht7 d6 d7 (by omega) (by omega) (by omega) HB5.out (Own.nil _ _ _ _ _) (OwnR.nil _ _) (by omega) (by omega) (by omega) List.nodup_nil (fun D hD => by cases hD) (fun w' hB' hT' hR' => HR2 w' _ _ _ hB' (by rw [okL_no (by omega)]; exact hT') (by rw [okL_no (by omega)]; exact hR')))
      clear d6 d7 HR2
      go_wp2_with fail
      exact HT.out _ _ rfl rfl rfl
    · obtain ⟨pt, qt, rfl⟩ := Own.slice hot
      obtain ⟨pi, qi, rfl⟩ := Own.slice hoi
      clear hot hoi
      generalize (cols ++ la.map Ag.nm).length = nt at *
      generalize (la.map fun a => placeI rc a.col).length = ni at *
      have hz4 := hB4.size
      have HBx4 := Lib.hid (HB3.out.trans (hB4.mono (by omega)))
      have hBx := alloc_below x4 (.cells #[.slice pi ni qi] 58)
      have hB45 := hB4.trans (hBx.mono hz4)
      go_upto_region 3 with fail
      generalize x4.alloc (.cells #[.slice pi ni qi] 58) = x5 at *
      have hz5 := hBx.size
      have HB5 := Lib.hid (HB3.out.trans (hB45.mono (by omega)))
      have Hb65 := Lib.hid (Hb63.out.below hB45 (by omega))
      have Hb75 := Lib.hid (Hb73.out.below hB45 (by omega))
      have HR2 := HR2'.out
      clear hBx hB45 hB4 c0 c1 c2
      have d6 := Hb65.out
      have d7 := Hb75.out
      obtain ⟨e0, e1⟩ := d6.cells.c2
      simp only [Nat.zero_add] at e1
      have e2 := d7.cells.c1
      have f0 := d6.free 0
      have f1 := d6.free 1
      have f2 := d7.free 0
      have HT := Lib.hid (fun (fn : Func) (tmps : Array Value) hfn ht6 ht7 => fdTail (n := 3) (fn := fn) (tmps := tmps) (R := R) (lo := x5.heap.size) (cv := .slice none 0 0) (lv := .slice none 0 0) (cols := []) (rs := []) (hs := []) (err := 2) (Ds := []) hfn ht6 ht7 d6 d7 (by omega) (by omega) (by omega) HB5.out (Own.nil _ _ _ _ _) (OwnR.nil _ _) (by omega) (by omega) (by omega) List.nodup_nil (fun D hD => by cases hD) (fun w' hB' hT' hR' => HR2 w' _ _ _ hB' (by rw [okL_no (by omega)]; exact hT') (by rw [okL_no (by omega)]; exact hR')))
      clear d6 d7 HR2
      go_wp2_with fail
      exact HT.out _ _ rfl rfl rfl
  have hm : mayRel rc l = true := by
    unfold rightB at hyes
    simp only [Bool.and_eq_true] at hyes
    exact hyes.1.1
  have hwi : withinB cols rc = true := by
    unfold rightB at hyes
    simp only [Bool.and_eq_true] at hyes
    exact hyes.1.2
  have Hyes := Lib.hid hyes
  have Hm := Lib.hid hm
  have hml := may_many hm
  have HokA : Hid (∀ x ∈ l, AtOk x.length (placesL cols rc)) := Lib.hid (fun x hx => by rw [may_len hm x hx]; exact places_ok hwi)
  have hcl : cols.length ≤ 32 := once_len (by unfold rightB at hyes; simp only [Bool.and_eq_true] at hyes; exact hyes.2)
  have hpl : (placesL cols rc).length = cols.length := by unfold placesL; simp
  generalize hat : placesL cols rc = at' at *
  have Hat := Lib.hid hat
  have hal : at'.length ≤ 1000000000000 := by omega
  clear hat hpl
  obtain ⟨p3, q3, rfl⟩ := Own.slice ho3
  have hz3 := hB3.size
  have HB3 := Lib.hid (HB.out.trans (hB3.mono hz2))
  have Hi3 := Lib.hid (OwnI.sl ho3)
  have Hb03 := Lib.hid (Hb0.out.below hB3 (by omega))
  have Hb13 := Lib.hid (Hb1.out.below hB3 (by omega))
  have Hb63 := Lib.hid (Hb6.out.below hB3 (by omega))
  have Hb73 := Lib.hid (Hb7.out.below hB3 hl7)
  clear hyes hm hwi ho3 hB3 Hb0 Hb1 Hb6 Hb7 c0 c1
  obtain ⟨c0, c1⟩ := Hb03.out.cells.c2
  simp only [Nat.zero_add] at c1
  have c2 := Hb13.out.cells.c1
  go_wp2_with fail
  refine fright_any lc hc l2 h2 l3 h3 rc _ _ _ _ _ cols _ la _ x3 (Sl.below Hrc.out Strs.loc HB3.out hhc) (by omega) (Sl.below Ho.out Strs.loc HB3.out hh2) (by omega) (Sl.below Hla.out Ags.loc HB3.out hh3) (by omega) (by omega) (by omega) _ (fun hno x4 hB4 => ?_) (fun hfi x4 tv iv hB4 hot hoi => ?_)
  · have he : foldErr rc cols la l = 2 := by unfold foldErr; rw [hno, Bool.and_false]; rfl
    have HR2 := HR.out
    rw [he] at HR2
    have HR2' := Lib.hid HR2
    clear he HR2
    have hz4 := hB4.size
    have HBx4 := Lib.hid (HB3.out.trans (hB4.mono (by omega)))
    have hBx := alloc_below x4 (.cells #[.slice none 0 0] 58)
    have hB45 := hB4.trans (hBx.mono hz4)
    go_upto_region 3 with fail
    generalize x4.alloc (.cells #[.slice none 0 0] 58) = x5 at *
    have hz5 := hBx.size
    have HB5 := Lib.hid (HB3.out.trans (hB45.mono (by omega)))
    have Hb65 := Lib.hid (Hb63.out.below hB45 (by omega))
    have Hb75 := Lib.hid (Hb73.out.below hB45 (by omega))
    have HR2 := HR2'.out
    clear hBx hB45 hB4 c0 c1 c2
    have d6 := Hb65.out
    have d7 := Hb75.out
    obtain ⟨e0, e1⟩ := d6.cells.c2
    simp only [Nat.zero_add] at e1
    have e2 := d7.cells.c1
    have f0 := d6.free 0
    have f1 := d6.free 1
    have f2 := d7.free 0
    have HT := Lib.hid (fun (fn : Func) (tmps : Array Value) hfn ht6 ht7 => fdTail (n := 3) (fn := fn) (tmps := tmps) (R := R) (lo := x5.heap.size) (cv := .slice none 0 0) (lv := .slice none 0 0) (cols := []) (rs := []) (hs := []) (err := 2) (Ds := []) hfn ht6 ht7 d6 d7 (by omega) (by omega) (by omega) HB5.out (Own.nil _ _ _ _ _) (OwnR.nil _ _) (by omega) (by omega) (by omega) List.nodup_nil (fun D hD => by cases hD) (fun w' hB' hT' hR' => HR2 w' _ _ _ hB' (by rw [okL_no (by omega)]; exact hT') (by rw [okL_no (by omega)]; exact hR')))
    clear d6 d7 HR2
    go_wp2_with fail
    exact HT.out _ _ rfl rfl rfl
  have hln : (cols ++ la.map Ag.nm).length = cols.length + la.length := by simp
  have hli : (la.map fun a => placeI rc a.col).length = la.length := by simp
  obtain ⟨pt, qt, et⟩ := Own.slice hot
  obtain ⟨pi, qi, ei⟩ := Own.slice hoi
  rw [hln] at et
  rw [hli] at ei
  subst et ei
  have HFi := Lib.hid (fits_all hfi)
  have he0 : foldErr rc cols la l = if 32 < cols.length + la.length then 140 else if foldOk rc cols la l then ofErr (foldCols cols la) (foldRows rc cols la l) else 160 := by
    unfold foldErr; rw [Hyes.out, hfi]; rfl
  have hz4 := hB4.size
  have hBx := alloc_below x4 (.cells #[.slice pi la.length qi] 58)
  have hbx := Blk.new x4 [.slice pi la.length qi] 58 rfl
  clear hln hli
  go_upto_region 3 with fail
  generalize x4.alloc (.cells #[.slice pi la.length qi] 58) = w3 at *
  have hzx := hBx.size
  have hB34 := hB4.trans (hBx.mono hz4)
  have HB3 := Lib.hid (HB3.out.trans (hB34.mono (by omega)))
  have Hb03 := Lib.hid (Hb03.out.below hB34 (by omega))
  have Hb13 := Lib.hid (Hb13.out.below hB34 (by omega))
  have Hb63 := Lib.hid (Hb63.out.below hB34 (by omega))
  have Hb73 := Lib.hid (Hb73.out.below hB34 (by omega))
  have Hi3 := Lib.hid (Sl.below Hi3.out Ints.loc hB34 (Nat.le_refl _))
  have Ht3 := Lib.hid (Sl.below (OwnT.sl hot) Strs.loc hBx (Nat.le_refl _))
  have Hof3 := Lib.hid (Sl.below (OwnI.sl hoi) Ints.loc hBx (Nat.le_refl _))
  have Hbt3 := Lib.hid hbx
  have hl11 := hbx.lt
  clear hB4 hot hoi hBx hbx hB34 c0 c1 c2 hfi
  have He0 := Lib.hid he0
  clear he0
  by_cases h32 : 32 < cols.length + la.length
  · have he : foldErr rc cols la l = 140 := by rw [He0.out, if_pos h32]
    have HR2 := HR.out
    rw [he] at HR2
    have h32i : (32 : Int) < (cols.length + la.length : Nat) := by omega
    clear he
    generalize cols.length + la.length = nt at *
    have d6 := Hb63.out
    have d7 := Hb73.out
    obtain ⟨e0, e1⟩ := d6.cells.c2
    simp only [Nat.zero_add] at e1
    have e2 := d7.cells.c1
    have f0 := d6.free 0
    have f1 := d6.free 1
    have f2 := d7.free 0
    have HT := Lib.hid (fun (fn : Func) (tmps : Array Value) hfn ht6 ht7 => fdTail (n := 3) (fn := fn) (tmps := tmps) (R := R) (lo := w3.heap.size) (cv := .slice none 0 0) (lv := .slice none 0 0) (cols := []) (rs := []) (hs := []) (err := 140) (Ds := []) hfn ht6 ht7 d6 d7 (by omega) (by omega) (by omega) HB3.out (Own.nil _ _ _ _ _) (OwnR.nil _ _) (by omega) (by omega) (by omega) List.nodup_nil (fun D hD => by cases hD) (fun w' hB' hT' hR' => HR2 w' _ _ _ hB' (by rw [okL_no (by omega)]; exact hT') (by rw [okL_no (by omega)]; exact hR')))
    clear d6 d7 HR2
    go_wp2_with fail
    exact HT.out _ _ rfl rfl rfl
  have He1 : Hid (foldErr rc cols la l = if foldOk rc cols la l then ofErr (foldCols cols la) (foldRows rc cols la l) else 160) := Lib.hid (by rw [He0.out, if_neg h32])
  have h32i : ¬ (32 : Int) < (cols.length + la.length : Nat) := by omega
  have Hnt : Hid (cols.length + la.length = (foldCols cols la).length) := Lib.hid (by unfold foldCols; simp)
  have hntl : cols.length + la.length ≤ 32 := by omega
  rw [Hnt.out] at Ht3 h32i ⊢
  change Hid (Strs x3.heap.size x4.heap.size w3 (.slice pt (foldCols cols la).length qt) (foldCols cols la)) at Ht3
  clear He0 h32
  go_upto_region 8 with fail
  have hBa := alloc_below w3 (.cells #[.slice none 0 0] 23)
  have hba := Blk.new w3 [.slice none 0 0] 23 rfl
  generalize w3.alloc (.cells #[.slice none 0 0] 23) = w4 at *
  have hz4' := hBa.size
  have hl4 := hba.lt
  have hz3w : w.heap.size + 1 + 1 + 1 < w3.heap.size := Hb73.out.lt
  have HB4 := Lib.hid (HB3.out.trans (hBa.mono (by omega)))
  have Hb04 := Lib.hid (Hb03.out.below hBa (by omega))
  have Hb14 := Lib.hid (Hb13.out.below hBa (by omega))
  have Hb64 := Lib.hid (Hb63.out.below hBa (by omega))
  have Hb74 := Lib.hid (Hb73.out.below hBa (by omega))
  have Hi4 := Lib.hid (Sl.below Hi3.out Ints.loc hBa (by omega))
  have Ht4 := Lib.hid (Sl.below Ht3.out Strs.loc hBa (by omega))
  have Hof4 := Lib.hid (Sl.below Hof3.out Ints.loc hBa (by omega))
  have Hbt4 := Lib.hid (Hbt3.out.below hBa hl11)
  have Hbo4 := Lib.hid hba
  obtain ⟨c0, c1⟩ := Hb04.out.cells.c2
  simp only [Nat.zero_add] at c1
  clear hBa hba Hb03 Hb13 Hb63 Hb73 Hi3 Ht3 Hof3 Hbt3
  go_wp2_with fail
  refine fgroups_any ac av p3 rc.length cc l.length av2 at'.length q3 w4 _ ?_
  have hBp := alloc_below w4 (.cells #[.slice ac rc.length cc, .slice av l.length av2] 25)
  have hkp := Blk.new w4 [.slice ac rc.length cc, .slice av l.length av2] 25 rfl
  have hsp : (w4.alloc (.cells #[.slice ac rc.length cc, .slice av l.length av2] 25)).heap.size = w4.heap.size + 1 := by simp
  have hBq := alloc_below (w4.alloc (.cells #[.slice ac rc.length cc, .slice av l.length av2] 25)) (.cells #[.slice p3 at'.length q3] 58)
  have hkq := Blk.new (w4.alloc (.cells #[.slice ac rc.length cc, .slice av l.length av2] 25)) [.slice p3 at'.length q3] 58 hsp.symm
  have hkp4 := hkp.below hBq hkp.lt
  have hBw := hBp.trans (hBq.mono hBp.size)
  clear hkp hBp hBq hsp
  generalize (w4.alloc (.cells #[.slice ac rc.length cc, .slice av l.length av2] 25)).alloc (.cells #[.slice p3 at'.length q3] 58) = W4 at *
  have hzw := hBw.size
  have hkql := hkq.lt
  have hkpl := hkp4.lt
  have HBW := Lib.hid (HB4.out.trans (hBw.mono (by omega)))
  have Hkp := Lib.hid hkp4
  have Hkq := Lib.hid hkq
  have Hb0W := Lib.hid (Hb04.out.below hBw (by omega))
  have Hb1W := Lib.hid (Hb14.out.below hBw (by omega))
  have Hb6W := Lib.hid (Hb64.out.below hBw (by omega))
  have Hb7W := Lib.hid (Hb74.out.below hBw (by omega))
  have HiW := Lib.hid (Sl.below Hi4.out Ints.loc hBw (by omega))
  have HtW := Lib.hid (Sl.below Ht4.out Strs.loc hBw (by omega))
  have HofW := Lib.hid (Sl.below Hof4.out Ints.loc hBw (by omega))
  have HbtW := Lib.hid (Hbt4.out.below hBw (by omega))
  have HboW := Lib.hid (Hbo4.out.below hBw hl4)
  clear hBw hkp4 hkq c0 c1 Hb04 Hb14 Hb64 Hb74 Hi4 Ht4 Hof4 Hbt4 Hbo4
  go_wp2_with fail
  refine wp_rangeFuncR 2 (gf := 50) rfl (enters_of Tryz.func50 (by kernel_rfl) rfl) (fun fn RL hRL => ?_)
  have HRL := Lib.hid hRL
  clear hRL
  have hB5 : Below W4.heap.size W4 ((W4.alloc (.deferred (some []))).alloc (.loop (RL .ready none))) := ((Below.refl _ _).alloc (Nat.le_refl _) _).alloc (by simp) _
  have hlD : ((W4.alloc (.deferred (some []))).alloc (.loop (RL .ready none))).heap[W4.heap.size]? = some (.deferred (some [])) := (Below.heap_alloc _ _ _ (by simp)).trans (World.alloc_heap_new W4 _)
  have hlL : ((W4.alloc (.deferred (some []))).alloc (.loop (RL .ready none))).heap[W4.heap.size + 1]? = some (.loop (RL .ready none)) := by
    have := World.alloc_heap_new (W4.alloc (.deferred (some []))) (.loop (RL .ready none))
    rwa [World.size_alloc] at this
  generalize (W4.alloc (.deferred (some []))).alloc (.loop (RL .ready none)) = W5 at *
  have HBw5 := Lib.hid (HBW.out.trans (hB5.mono (by omega)))
  have hlt5 := heap_lt hlL
  have HlD := Lib.hid hlD
  have HlL := Lib.hid hlL
  have Hkp5 := Lib.hid (Hkp.out.below hB5 (by omega))
  have Hkq5 := Lib.hid (Hkq.out.below hB5 (by omega))
  have Hb15 := Lib.hid (Hb1W.out.below hB5 (by omega))
  have Hb65 := Lib.hid (Hb6W.out.below hB5 (by omega))
  have Hb75 := Lib.hid (Hb7W.out.below hB5 (by omega))
  have Hi5 := Lib.hid (Sl.below HiW.out Ints.loc hB5 (by omega))
  have Ht5 := Lib.hid (Sl.below HtW.out Strs.loc hB5 (by omega))
  have Hof5 := Lib.hid (Sl.below HofW.out Ints.loc hB5 (by omega))
  have Hbt5 := Lib.hid (HbtW.out.below hB5 (by omega))
  have Hbo5 := Lib.hid (HboW.out.below hB5 (by omega))
  have Hv5 := Lib.hid (Sl.below Hv.out rowE_loc HBw5.out hhi)
  have Hla5 := Lib.hid (Sl.below Hla.out Ags.loc HBw5.out hh3)
  clear hB5 hlD hlL Hkp Hkq Hb0W Hb1W Hb6W Hb7W HiW HtW HofW HbtW HboW
  have hf : grpK rc cols = fun x => pickL x at' := by funext x; unfold grpK; rw [Hat.out]
  obtain ⟨T, hT⟩ : ∃ T, T = (keysL (fun x => pickL x at') l).map (fun k => foldRow rc la k (withK (fun x => pickL x at') l k)) := ⟨_, rfl⟩
  have HTg : Hid (foldRows rc cols la l = T) := Lib.hid (by unfold foldRows; rw [hf, hT])
  obtain ⟨G, hG⟩ : ∃ G : Nat → Prop, G = fun j => ∀ (h : j < (keysL (fun x => pickL x at') l).length), ∀ a ∈ la, errG rc (withK (fun x => pickL x at') l (keysL (fun x => pickL x at') l)[j]) a = 0 := ⟨_, rfl⟩
  have HGood : Hid ((∀ j, j < (keysL (fun x => pickL x at') l).length → G j) → foldOk rc cols la l = true) := Lib.hid (fun h => fold_good (fun k hk a ha => by
    rw [hf] at hk ⊢
    obtain ⟨j, hj, rfl⟩ := List.getElem_of_mem hk
    have := h j hj
    rw [hG] at this
    exact this hj a ha))
  have HBadT : Hid (∀ (j : Nat) (hj : j < (keysL (fun x => pickL x at') l).length) (g : List (List V)) (a : Ag), g.Perm (withK (fun x => pickL x at') l (keysL (fun x => pickL x at') l)[j]) → a ∈ la → errG rc g a ≠ 0 → foldOk rc cols la l = false) := Lib.hid (fun j hj g a hg ha he => by
    refine fold_bad (k := (keysL (fun x => pickL x at') l)[j]) (by rw [hf]; exact List.getElem_mem hj) (by rw [hf]; exact hg) ha he)
  have HT := Lib.hid hT
  have HG := Lib.hid hG
  clear hf hT hG
  have HJF : Hid (∀ k g W, FdJ (W4.heap.size + 1) W4.heap.size w3.heap.size W5 (.loop (RL .ready none)) T G k g W → Agree 0 w3.heap.size W5 W ∧ Agree w4.heap.size W4.heap.size W5 W ∧ W5.heap.size ≤ W.heap.size) := Lib.hid (fun k g W h => ⟨h.on.agree (by omega) (fun z hz => by rcases hz with rfl | rfl <;> omega), h.on.agree (by omega) (fun z hz => by rcases hz with rfl | rfl <;> omega), h.on.size⟩)
  refine (groups1_any lo hi w2.heap.size x3.heap.size w4.heap.size (w4.heap.size + 1) (W4.heap.size + 1) 1 l at' (.slice ac rc.length cc) (.slice av l.length av2) (.slice p3 at'.length q3) (FdJ (W4.heap.size + 1) W4.heap.size w3.heap.size W5 (.loop (RL .ready none)) T G) (FdZ (foldOk rc cols la l = false) (W4.heap.size + 1) W4.heap.size (w.heap.size + 1 + 1) (w.heap.size + 1 + 1 + 1) w (.loop (RL .done (some .ret)))) W5 Hv5.out (by omega) Hkp5.out HokA.out (by omega) hal (by omega) (by omega) Hi5.out Hkq5.out ?hJF ?hJB ?hJ0 ?hY).mono ?hend
  case hJF =>
    intro k g W h
    obtain ⟨h1, h2, h3⟩ := HJF.out k g W h
    exact ⟨fun b q1 q2 => h1 b (Nat.zero_le _) (by omega), Hkq5.out.agree h2 (by omega) (by omega), Sl.agree Hi5.out Ints.loc (fun b q1 q2 => h1 b (Nat.zero_le _) (by omega)), h3⟩
  case hJB =>
    intro k g W W' h hB
    obtain ⟨v, hs, q1, q2, q3⟩ := h.out
    exact ⟨(hB.block _ (heap_lt h.lp)).trans h.lp, (hB.block _ (heap_lt h.df)).trans h.df, h.on.trans (Below.only hB), h.ge, ⟨v, hs, q1.below hB q1.lt, q2.kept hB, q3⟩, h.good⟩
  case hJ0 =>
    intro g W hB hg
    exact ⟨(hB.block _ hlt5).trans HlL.out, (hB.block _ (by omega)).trans HlD.out, Below.only hB, hg, ⟨.slice none 0 0, [], Hbo5.out.below hB (by omega), by simpa using OwnR.nil _ _, by simp [Value.ownBlock]⟩, fun j h => absurd h (Nat.not_lt_zero _)⟩
  case hY =>
    intro k g Wb W kp kc gp gc grp hJ hBb hgl hk hkey hgrp hperm
    have hlp := (hBb.block _ (heap_lt hJ.lp)).trans hJ.lp
    have hdf := (hBb.block _ (heap_lt hJ.df)).trans hJ.df
    have hon : Only (fun z => z = w3.heap.size ∨ z = W4.heap.size + 1) W5 W := hJ.on.trans (Below.only hBb)
    have hge := hJ.ge
    obtain ⟨vk, hsk, hbk0, hok0, hne⟩ := hJ.out
    have hbk := hbk0.below hBb hbk0.lt
    have hok := hok0.kept hBb
    have Hgood := Lib.hid hJ.good
    have HN5 : Hid (W5.heap.size ≤ Wb.heap.size) := Lib.hid hJ.on.size
    have hkT : k < T.length := by rw [HT.out, List.length_map]; exact hk
    have hTk : T[k] = foldRow rc la (keysL (fun x => pickL x at') l)[k] grp := by
      simp only [HT.out, List.getElem_map]
      unfold foldRow
      rw [tellG_perm hperm]
    have Htk : Hid (T.take (k + 1) = T.take k ++ [foldRow rc la (keysL (fun x => pickL x at') l)[k] grp]) := Lib.hid (by rw [List.take_succ_eq_append_getElem hkT, hTk])
    have HGk : Hid ((∀ a ∈ la, errG rc grp a = 0) → G k) := Lib.hid (fun h => by
      rw [HG.out]
      intro _ a ha
      rw [← errG_perm hperm]
      exact h a ha)
    have HBd : Hid (∀ a, a ∈ la → errG rc grp a ≠ 0 → foldOk rc cols la l = false) := Lib.hid (fun a ha he => HBadT.out k hk grp a hperm ha he)
    have hTl : T.length ≤ 100000 := by
      rw [HT.out, List.length_map]
      have : (keysL (fun x => pickL x at') l).length ≤ (l.map (fun x => pickL x at')).length := canon_len_le _
      rw [List.length_map] at this
      omega
    have hgm : ∀ x ∈ grp, x ∈ l := fun x hx => by
      have := hperm.mem_iff.1 hx
      unfold withK at this
      exact (List.mem_filter.1 this).1
    have hgl2 : grp.length ≤ 1000 := by
      rw [hperm.length_eq]
      have h1 := List.length_filter_le (fun x => cmpR (pickL x at') (keysL (fun x => pickL x at') l)[k] == 0) l
      exact Nat.le_trans h1 hl1
    have hgpos : 0 < grp.length := by
      rw [hperm.length_eq]
      obtain ⟨y, hy, hyk⟩ := List.mem_map.1 ((canon_mem cmpR_cmp (l.map (fun x => pickL x at')) _).1 (List.getElem_mem hk : (keysL (fun x => pickL x at') l)[k] ∈ keysL (fun x => pickL x at') l))
      have : y ∈ withK (fun x => pickL x at') l (keysL (fun x => pickL x at') l)[k] := by
        unfold withK
        rw [List.mem_filter]
        refine ⟨hy, ?_⟩
        show (cmpR (pickL y at') _ == 0) = true
        rw [show pickL y at' = _ from hyk, cmpR_cmp.self]; rfl
      exact List.length_pos_of_mem this
    have Hgok : Hid (∀ x ∈ grp, x.length = rc.length ∧ ∀ a ∈ x, a.ok) := Lib.hid (fun x hx => ⟨may_len Hm.out x (hgm x hx), Hok.out x (hgm x hx)⟩)
    have hkl : (keysL (fun x => pickL x at') l)[k].length ≤ 32 := by
      obtain ⟨y, hy, hyk⟩ := List.mem_map.1 ((canon_mem cmpR_cmp (l.map (fun x => pickL x at')) _).1 (List.getElem_mem hk : (keysL (fun x => pickL x at') l)[k] ∈ keysL (fun x => pickL x at') l))
      rw [← hyk]
      show (pickL y at').length ≤ 32
      unfold pickL
      rw [List.length_map]
      have : at'.length = cols.length := by rw [← Hat.out]; unfold placesL; simp
      omega
    have Hokb := Lib.hid hok0
    have HBb := Lib.hid hBb
    clear hTk hperm hgm hJ hbk0 hok0
    have hLl := heap_lt hlp
    have hWb := hBb.size
    have hW5 := hon.size
    have Hlp := Lib.hid hlp
    generalize (keysL (fun x => pickL x at') l)[k] = key at *
    clear hk hkT
    generalize hL : W4.heap.size + 1 = L at *
    have hL4 : W4.heap.size < L := by omega
    refine yieldAt_recR HRL.out Hlp.out rfl ?_
    gi_wp2_with fail
    refine ⟨Hlp.out, ?_⟩
    have ho3 : Only (· = L) W (W.putObj L (.loop (RL .busy none))) := Only.putObj (A := (· = L)) W (b := L) rfl _
    have hl3 : (W.putObj L (.loop (RL .busy none))).heap[L]? = some (.loop (RL .busy none)) := World.putObj_heap_same hLl
    generalize W.putObj L (.loop (RL .busy none)) = W3 at *
    have hs3 := ho3.size
    have hon3 : Only (fun z => z = w3.heap.size ∨ z = L) W5 W3 := hon.trans (ho3.mono (fun z _ hz => .inr hz))
    have hbk3 := ho3.blk hbk (show ¬ w3.heap.size = L by omega)
    have hok3 := hok.onlyLow ho3 (fun b e => by have : b = L := e; omega)
    have hdf3 := (ho3.block W4.heap.size (heap_lt hdf) (show ¬ W4.heap.size = L by omega)).trans hdf
    have hb13 := hon3.blk Hb15.out (show ¬ (w.heap.size + 1 = w3.heap.size ∨ w.heap.size + 1 = L) by omega)
    have hb63 := hon3.blk Hb65.out (show ¬ (w.heap.size + 1 + 1 = w3.heap.size ∨ w.heap.size + 1 + 1 = L) by omega)
    have hb73 := hon3.blk Hb75.out (show ¬ (w.heap.size + 1 + 1 + 1 = w3.heap.size ∨ w.heap.size + 1 + 1 + 1 = L) by omega)
    have hbt3 := hon3.blk Hbt5.out (show ¬ (x4.heap.size = w3.heap.size ∨ x4.heap.size = L) by omega)
    have hla3 := Sl.agree Hla5.out Ags.loc (hon3.agree (hi := h3) (lo := l3) (by omega) (fun z hz => by rcases hz with rfl | rfl <;> omega))
    have hof3 := Sl.agree Hof5.out Ints.loc (hon3.agree (hi := x4.heap.size) (lo := x3.heap.size) (by omega) (fun z hz => by rcases hz with rfl | rfl <;> omega))
    have hgrp3 : Rws 0 Wb.heap.size W3 (.slice gp grp.length gc) grp := Rws.turn hgrp Hlp.out rfl ho3
    have hkey3 : OwnV Wb.heap.size W3 (.slice kp key.length kc) key := Own.onlyLow hkey ho3 (fun b e => by have : b = L := e; have := HN5.out; omega)
    have Hon3 := Lib.hid hon3
    have Hbk3 := Lib.hid hbk3
    have Hok3 := Lib.hid hok3
    have Hdf3 := Lib.hid hdf3
    have Hl3 := Lib.hid hl3
    have Hb13 := Lib.hid hb13
    have Hb63 := Lib.hid hb63
    have Hb73 := Lib.hid hb73
    have Hbt3 := Lib.hid hbt3
    have Hla3 := Lib.hid hla3
    have Hof3 := Lib.hid hof3
    have Hgrp3 := Lib.hid hgrp3
    have Hkey3 := Lib.hid hkey3
    have Hho3 := Lib.hid ho3
    have c1 := hb13.cells.c1
    clear hon3 hbk3 hok3 hdf3 hl3 hb13 hb63 hb73 hbt3 hla3 hof3 hgrp3 hkey3 ho3 hbk hok hdf hon hgrp hlp hkey
    gi_wp2_with fail
    gi_loopw [14, 57] (fun t14 t57 wr => ∃ i : Nat, i ≤ la.length ∧ t57 = .int .i64 i ∧ Below Wb.heap.size W3 wr ∧ W3.heap.size ≤ wr.heap.size ∧ OwnV Wb.heap.size wr t14 (key ++ (la.take i).map (tellG rc grp)) ∧ ∀ a ∈ la.take i, errG rc grp a = 0) (fun _ t57 _ => la.length - (intOf t57).toNat)
    case atStart => exact ⟨0, Nat.zero_le _, rfl, Below.refl _ _, Nat.le_refl _, by simpa using Hkey3.out, fun a ha => by simp at ha⟩
    case round =>
      clear c1
      obtain ⟨i, hi', rfl, hBr, hzr, hox, herr⟩ := hrel
      obtain ⟨wo, ewo⟩ : ∃ x, x = wr := ⟨_, rfl⟩
      subst ewo
      have HBr := Lib.hid hBr
      have Hox := Lib.hid hox
      have Herr := Lib.hid herr
      have ii0 : (0 : Int) ≤ (i : Int) := by omega
      obtain ⟨px, cx, ex⟩ := Own.slice hox
      subst ex
      have exl : (key ++ (la.take i).map (tellG rc grp)).length = key.length + i := by rw [List.length_append, List.length_map, List.length_take, Nat.min_eq_left hi']
      rw [exl] at Hox ⊢
      have hN5 := HN5.out
      clear hBr hox herr exl
      by_cases hlt : i < la.length
      · have iil : (i : Int) < (la.length : Int) := by omega
        obtain ⟨ao', cap', e', -, -, -, hc'⟩ := (Sl.agree Hla3.out Ags.loc (.below HBr.out (by omega))).form
        injection e' with e1 e2 e3
        subst e1 e3
        obtain ⟨b, off, rfl, hb1', hb2', hcc⟩ := hc' i hlt
        obtain ⟨cs, -, hcs, ecs⟩ := hcc i hlt
        obtain rfl : cs = Ag.enc la[i] := ecs
        obtain ⟨g0, g1, g2⟩ := hcs.c3
        obtain ⟨ao', cap', e', -, -, -, hc'⟩ := (Sl.agree Hof3.out Ints.loc (.below HBr.out (by omega))).form
        injection e' with e1 e2' e3
        rw [List.length_map] at e2'
        subst e1 e3
        have hltm : i < (la.map fun a => placeI rc a.col).length := by rw [List.length_map]; exact hlt
        obtain ⟨bi, oi, rfl, hbi1, hbi2, hcc⟩ := hc' i hltm
        obtain ⟨cs, -, hcs2, ecs⟩ := hcc i hltm
        obtain rfl : cs = [.int .i64 (placeI rc la[i].col)] := by rw [List.getElem_map] at ecs; exact ecs
        have Hoi := Lib.hid hcs2
        have Hst : Hid (la.take (i + 1) = la.take i ++ [la[i]]) := Lib.hid (List.take_succ_eq_append_getElem hlt)
        have Hmem : Hid (la[i] ∈ la) := Lib.hid (List.getElem_mem hlt)
        have Hop := Lib.hid (HFi.out la[i] (List.getElem_mem hlt))
        clear hcc hcs hcs2 hc' e2 e2' ecs
        generalize la[i] = a at *
        gi_upto_region 14 with fail
        have hBx := alloc_below wo (.cells #[.int .i64 a.op, .string ⟨a.col.toArray⟩, .string ⟨a.nm.toArray⟩] 41)
        have hbx := Blk.new wo [.int .i64 a.op, .string ⟨a.col.toArray⟩, .string ⟨a.nm.toArray⟩] 41 rfl
        generalize wo.alloc (.cells #[.int .i64 a.op, .string ⟨a.col.toArray⟩, .string ⟨a.nm.toArray⟩] 41) = wx at *
        have HBx := Lib.hid (HBr.out.trans (hBx.mono (by omega)))
        have Hbx := Lib.hid hbx
        have Hox := Lib.hid (Own.kept Hox.out hBx)
        have hzx' := hBx.size
        have hlx := hbx.lt
        have Hoi := Lib.hid (Hoi.out.agree (.below hBx (Nat.le_refl _)) (Nat.zero_le _) (by omega))
        clear hBx hbx g0 g1 g2
        gi_wp2_with fail
        gi_loopw [18, 64] (fun t18 t64 w8 => ∃ j : Nat, j ≤ grp.length ∧ t64 = .int .i64 j ∧ Below wx.heap.size wx w8 ∧ OwnV wx.heap.size w8 t18 (if a.op = 1 then [] else colL rc a.col (grp.take j))) (fun _ t64 _ => grp.length - (intOf t64).toNat)
        case atStart => exact ⟨0, Nat.zero_le _, rfl, Below.refl _ _, by unfold colL; split <;> simpa using Own.nil _ _ _ _ _⟩
        case round =>
          obtain ⟨j, hj, rfl, hBj, hoj⟩ := hrel
          obtain ⟨wj, ewj⟩ : ∃ x, x = wr := ⟨_, rfl⟩
          subst ewj
          have HBj := Lib.hid hBj
          have Hoj := Lib.hid hoj
          have jj0 : (0 : Int) ≤ (j : Int) := by omega
          have hzj := hBj.size
          obtain ⟨d0, d1, d2⟩ := (Hbx.out.below hBj hlx).cells.c3
          simp only [Nat.zero_add] at d1 d2
          clear hBj hoj d1 d2
          by_cases hjt : j < grp.length
          · have jjl : (j : Int) < (grp.length : Int) := by omega
            obtain ⟨ao', cap', e', -, -, -, hc'⟩ := (Sl.below (Sl.below Hgrp3.out rowE_loc HBx.out (Nat.le_refl _)) rowE_loc HBj.out (by omega)).form
            injection e' with e1 e2 e3
            subst e1 e3
            obtain ⟨bg, og, rfl, hbg1, hbg2, hcc⟩ := hc' j hjt
            obtain ⟨cs, -, hcs, sv, rfl, hsv⟩ := hcc j hjt
            have k0 := hcs.c1
            rw [Nat.mul_one] at k0
            have Hgj : Hid (grp.take (j + 1) = grp.take j ++ [grp[j]]) := Lib.hid (List.take_succ_eq_append_getElem hjt)
            have hgl := (Hgok.out _ (List.getElem_mem hjt)).1
            clear hcc hcs hc' e2
            generalize grp[j] = y at *
            obtain ⟨py, cy, rfl, -, -, -, hcy⟩ := hsv.form
            have hy63 := hsv.len
            by_cases oc : a.op = 1
            · have hn : (if a.op = 1 then ([] : List V) else colL rc a.col (grp.take (j + 1))) = if a.op = 1 then [] else colL rc a.col (grp.take j) := by rw [if_pos oc, if_pos oc]
              have Hn : Hid (OwnV wx.heap.size wj _ (if a.op = 1 then [] else colL rc a.col (grp.take (j + 1)))) := Lib.hid (by rw [hn]; exact Hoj.out)
              obtain ⟨pj, cj, ej⟩ := Own.slice Hoj.out
              clear hn hsv hcy Hoj
              gi_wp2_with fail
              go_roundw
              case rel => exact ⟨j + 1, by omega, by go_num, HBj.out, Hn.out⟩
              case measure => simp [intOf]; omega
            · obtain ⟨P, hP⟩ : ∃ P : Nat, placeI rc a.col = (P : Int) := ⟨(placeI rc a.col).toNat, by have := Hop.out.2.2 oc; omega⟩
              have hPl := (placeI_lt rc a.col).2
              rw [hP] at hPl
              have hPy : P < y.length := by omega
              have ppl : (P : Int) < (y.length : Int) := by omega
              have pp0 : (0 : Int) ≤ (P : Int) := by omega
              rw [if_neg oc] at Hoj
              obtain ⟨by_, oy, rfl, hby1, hby2, hcc⟩ := hcy P hPy
              obtain ⟨cs, -, hcs, ecs⟩ := hcc P hPy
              obtain rfl : cs = V.enc y[P] := ecs
              obtain ⟨y0, y1, y2⟩ := hcs.c3
              have hk := (Hoi.out.agree (.below HBj.out (Nat.le_refl _)) (Nat.zero_le _) (by omega)).c1
              rw [Nat.mul_one, hP] at hk
              have c2 := ((Hbt3.out.below HBx.out (by omega)).below HBj.out (by omega)).cells.c1
              have hcol : colL rc a.col (grp.take (j + 1)) = colL rc a.col (grp.take j) ++ [y[P]] := by
                unfold colL
                rw [Hgj.out, List.map_append]
                simp only [List.map_cons, List.map_nil, hP, Int.toNat_natCast, getDS y _ P hPy]
              have hcl' : (colL rc a.col (grp.take j)).length ≤ 1000 := by unfold colL; rw [List.length_map, List.length_take]; omega
              obtain ⟨v9, w9, hr9, ho9, ha9⟩ := appW1 Hoj.out y[P] rfl (by omega) (by omega)
              have HB9 := Lib.hid (HBj.out.trans (ha9.below (by omega) (fun q e => (Own.lt Hoj.out q e).1)))
              have Hn : Hid (OwnV wx.heap.size w9 v9 (if a.op = 1 then [] else colL rc a.col (grp.take (j + 1)))) := Lib.hid (by rw [if_neg oc, hcol]; exact ho9)
              obtain ⟨pj, cj, ej⟩ := Own.slice Hoj.out
              obtain ⟨p9, c9, e9⟩ := Own.slice ho9
              subst e9
              clear hsv hcy hcc hcs hcol ho9 ha9 hP hPl hgl
              generalize y[P] = z at *
              generalize (colL rc a.col (grp.take j) ++ [z]).length = n9 at *
              subst ej
              generalize (colL rc a.col (grp.take j)).length = nj at *
              gi_wp2_with (gi_at_builtin; refine AtApp.of ?_)
              refine AtApp.goIn hr9 rfl rfl rfl rfl ?_
              gi_wp2_with fail
              go_roundw
              case rel => exact ⟨j + 1, by omega, by go_num, HB9.out, Hn.out⟩
              case measure => simp [intOf]; omega
          · obtain rfl : j = grp.length := by omega
            have llt : ¬ ((grp.length : Nat) : Int) < (grp.length : Int) := by omega
            have hvs : (if a.op = 1 then ([] : List V) else colL rc a.col (grp.take grp.length)) = aggVs rc a grp := by unfold aggVs; rw [List.take_length]
            rw [hvs] at Hoj
            have hvl : (aggVs rc a grp).length ≤ 1000 := by
              unfold aggVs
              split
              · simp
              · unfold colL; rw [List.length_map]; exact hgl2
            have hvne : a.op = 1 ∨ 0 < (aggVs rc a grp).length := by
              by_cases oc : a.op = 1
              · exact .inl oc
              · exact .inr (by unfold aggVs; rw [if_neg oc]; unfold colL; rw [List.length_map]; exact hgpos)
            have hvok : ∀ x ∈ aggVs rc a grp, x.ok := by
              intro x hx
              unfold aggVs at hx
              split at hx
              · cases hx
              · rename_i oc
                unfold colL at hx
                obtain ⟨y, hy, rfl⟩ := List.mem_map.1 hx
                have h1 := Hgok.out y hy
                have h2 := Hop.out.2.2 oc
                have h3 := (placeI_lt rc a.col).2
                rw [getDS y _ _ (show (placeI rc a.col).toNat < y.length by omega)]
                exact h1.2 _ (List.getElem_mem _)
            obtain ⟨pj, cj, ej⟩ := Own.slice Hoj.out
            have Hj1 := Lib.hid (OwnV.sl Hoj.out)
            rw [ej] at Hj1
            clear hvs Hoj
            subst ej
            gi_wp2_with fail
            refine ⟨by first | trivial | simp, callsIn_wide.2 (tell_any wx.heap.size wj.heap.size a.op grp.length _ _ wj Hj1.out (Nat.le_refl _) (by omega) hvl Hop.out.1 Hop.out.2.1 hvok hvne _ (fun w9 hB9 => ?_))⟩
            have e1 : tellV a.op grp.length (aggVs rc a grp) = tellG rc grp a := rfl
            have e2 : tellErr a.op (aggVs rc a grp) = errG rc grp a := rfl
            rw [e1, e2]
            have hz9 := hB9.size
            have HB9 := Lib.hid (HBx.out.trans ((HBj.out.mono (by omega)).trans (hB9.mono (by omega))))
            have Hox9 := Lib.hid (Own.kept (Own.kept Hox.out HBj.out) hB9)
            have HBw9 := Lib.hid (HBw5.out.trans ((Hon3.out.below (B := w.heap.size) (by omega) (fun z hz => by rcases hz with rfl | rfl <;> omega)).trans (HB9.out.mono (by omega))))
            clear e1 e2 hvl hvne hvok d0 hB9
            generalize (aggVs rc a grp).length = nv at *
            by_cases he : errG rc grp a = 0
            · have Hmm : Hid (key ++ (la.take (i + 1)).map (tellG rc grp) = (key ++ (la.take i).map (tellG rc grp)) ++ [tellG rc grp a]) := Lib.hid (by rw [Hst.out, List.map_append, List.append_assoc]; rfl)
              have Hee : Hid (∀ a ∈ la.take (i + 1), errG rc grp a = 0) := Lib.hid (fun x hx => by
                rw [Hst.out] at hx
                rcases List.mem_append.1 hx with h | h
                · exact Herr.out x h
                · rw [List.mem_singleton.1 h]; exact he)
              rw [he]
              clear he
              generalize tellG rc grp a = m at *
              gi_upto_region 24 with fail
              have hBm := alloc_below w9 (.cells #[.int .i64 m.kind, .int .i64 m.n, .string ⟨m.s.toArray⟩] 44)
              have hbm := Blk.new w9 [.int .i64 m.kind, .int .i64 m.n, .string ⟨m.s.toArray⟩] 44 rfl
              generalize w9.alloc (.cells #[.int .i64 m.kind, .int .i64 m.n, .string ⟨m.s.toArray⟩] 44) = wm at *
              have hzm := hBm.size
              obtain ⟨m0, m1, m2⟩ := hbm.cells.c3
              simp only [Nat.zero_add] at m1 m2
              have Hl9 := Lib.hid (hbm.cells.runVar (P := Tryz.prog) (t := 44) (fun _ => by kernel_rfl) (fun _ => by kernel_rfl))
              have hcx : (key ++ (la.take i).map (tellG rc grp)).length ≤ 2000000000 := by rw [List.length_append, List.length_map, List.length_take]; omega
              obtain ⟨vE, wE, hrE, hoE, haE⟩ := appV1 (Own.kept Hox9.out hBm) m rfl (by omega) (by omega)
              have HoE : Hid (OwnV Wb.heap.size wE vE (key ++ (la.take (i + 1)).map (tellG rc grp))) := Lib.hid (by rw [Hmm.out]; exact hoE)
              have HBE := Lib.hid ((HB9.out.trans (hBm.mono (by omega))).trans (haE.below (B := Wb.heap.size) (by omega) (fun q e => (Own.lt Hox9.out q e).1)))
              have HzE : Hid (W3.heap.size ≤ wE.heap.size) := Lib.hid (by have := HBE.out.size; exact this)
              obtain ⟨pE, qE, eE⟩ := Own.slice hoE
              subst eE
              clear hBm hbm hoE haE hcx
              generalize ((key ++ (la.take i).map (tellG rc grp)) ++ [m]).length = nE at *
              have hl9 := Hl9.out
              gi_wp2_with (gi_at_builtin; refine AtApp.of ?_)
              refine AtApp.goIn hrE rfl rfl rfl rfl ?_
              gi_wp2_with fail
              go_roundw
              case rel => exact ⟨i + 1, by omega, by go_num, HBE.out, HzE.out, HoE.out, Hee.out⟩
              case measure => simp [intOf]; omega
            · have h160 : errG rc grp a = 160 := tellErr_val he
              have HNo := Lib.hid (HBd.out a Hmem.out he)
              rw [h160]
              clear he h160
              generalize tellG rc grp a = m at *
              gi_upto_region 23 with fail
              have hBm := alloc_below w9 (.cells #[.int .i64 m.kind, .int .i64 m.n, .string ⟨m.s.toArray⟩] 44)
              generalize w9.alloc (.cells #[.int .i64 m.kind, .int .i64 m.n, .string ⟨m.s.toArray⟩] 44) = wm at *
              have hzm := hBm.size
              have HBm := Lib.hid (HB9.out.trans (hBm.mono (by omega)))
              have HBwm := Lib.hid (HBw9.out.trans (hBm.mono (by omega)))
              have h6 := Hb63.out.below HBm.out (by omega)
              have h7 := Hb73.out.below HBm.out (by omega)
              have H6 := Lib.hid h6
              have H7 := Lib.hid h7
              have Hlm := Lib.hid ((HBm.out.block L (by omega)).trans Hl3.out)
              have Hdm := Lib.hid ((HBm.out.block W4.heap.size (by omega)).trans Hdf3.out)
              obtain ⟨q0, q1⟩ := h6.cells.c2
              simp only [Nat.zero_add] at q1
              have q2 := h7.cells.c1
              have f0 := h6.free 0
              have f1 := h6.free 1
              have f2 := h7.free 0
              clear h6 h7 hBm
              gi_wp2_with fail
              have hO : Only (fun z => z = w.heap.size + 1 + 1 ∨ z = w.heap.size + 1 + 1 + 1) wm (((wm.setCell ⟨w.heap.size + 1 + 1, 0, none⟩ (.slice none 0 0)).setCell ⟨w.heap.size + 1 + 1, 1, none⟩ (.slice none 0 0)).setCell ⟨w.heap.size + 1 + 1 + 1, 0, none⟩ (.int .i64 160)) :=
                ((Only.setCell (A := fun z => z = w.heap.size + 1 + 1 ∨ z = w.heap.size + 1 + 1 + 1) wm (p := ⟨w.heap.size + 1 + 1, 0, none⟩) (.inl rfl) _).trans (Only.setCell _ (p := ⟨w.heap.size + 1 + 1, 1, none⟩) (.inl rfl) _)).trans (Only.setCell _ (p := ⟨w.heap.size + 1 + 1 + 1, 0, none⟩) (.inr rfl) _)
              have k6 : Blk (((wm.setCell ⟨w.heap.size + 1 + 1, 0, none⟩ (.slice none 0 0)).setCell ⟨w.heap.size + 1 + 1, 1, none⟩ (.slice none 0 0)).setCell ⟨w.heap.size + 1 + 1 + 1, 0, none⟩ (.int .i64 160)) (w.heap.size + 1 + 1) [.slice none 0 0, .slice none 0 0] 25 := ((H6.out.set 0 (.slice none 0 0)).set 1 (.slice none 0 0)).other (by show w.heap.size + 1 + 1 ≠ w.heap.size + 1 + 1 + 1; omega) _
              have k7 : Blk (((wm.setCell ⟨w.heap.size + 1 + 1, 0, none⟩ (.slice none 0 0)).setCell ⟨w.heap.size + 1 + 1, 1, none⟩ (.slice none 0 0)).setCell ⟨w.heap.size + 1 + 1 + 1, 0, none⟩ (.int .i64 160)) (w.heap.size + 1 + 1 + 1) [.int .i64 160] 29 := ((H7.out.other (p := ⟨w.heap.size + 1 + 1, 0, none⟩) (by show w.heap.size + 1 + 1 + 1 ≠ w.heap.size + 1 + 1; omega) _).other (p := ⟨w.heap.size + 1 + 1, 1, none⟩) (by show w.heap.size + 1 + 1 + 1 ≠ w.heap.size + 1 + 1; omega) _).set 0 (.int .i64 160)
              have hl9 := (hO.block L (heap_lt Hlm.out) (show ¬ (L = w.heap.size + 1 + 1 ∨ L = w.heap.size + 1 + 1 + 1) by omega)).trans Hlm.out
              have hd9 := (hO.block W4.heap.size (heap_lt Hdm.out) (show ¬ (W4.heap.size = w.heap.size + 1 + 1 ∨ W4.heap.size = w.heap.size + 1 + 1 + 1) by omega)).trans Hdm.out
              have hB10 := HBwm.out.trans (hO.below (by have := HBwm.out.size; omega) (fun k e => by omega))
              generalize ((wm.setCell ⟨w.heap.size + 1 + 1, 0, none⟩ (.slice none 0 0)).setCell ⟨w.heap.size + 1 + 1, 1, none⟩ (.slice none 0 0)).setCell ⟨w.heap.size + 1 + 1 + 1, 0, none⟩ (.int .i64 160) = W9 at *
              refine roundPost_retR HRL.out hl9 (.inr ⟨rfl, ?_⟩)
              have h10 : Only (· = L) W9 (W9.putObj L (.loop (RL .done (some .ret)))) := Only.putObj (A := (· = L)) W9 (b := L) rfl _
              exact ⟨HNo.out, World.putObj_heap_same (heap_lt hl9), (h10.block _ (heap_lt hd9) (show ¬ W4.heap.size = L by omega)).trans hd9, hB10.trans (h10.below (by have := hB10.size; omega) (fun k e => by have : k = L := e; omega)), h10.blk k6 (show ¬ w.heap.size + 1 + 1 = L by omega), h10.blk k7 (show ¬ w.heap.size + 1 + 1 + 1 = L by omega)⟩
      · obtain rfl : i = la.length := by omega
        have llt : ¬ ((la.length : Nat) : Int) < (la.length : Int) := by omega
        have hox := Hox.out
        rw [List.take_length] at hox
        have herr := Herr.out
        rw [List.take_length] at herr
        have HGk1 := Lib.hid (HGk.out herr)
        have Hoxe : Hid (OwnV Wb.heap.size wo (.slice px (key.length + la.length) cx) (foldRow rc la key grp)) := Lib.hid hox
        have hOb : Only (fun z => z = L ∨ Wb.heap.size ≤ z) Wb wo := (((Below.onlyGe HBb.out).mono (fun z _ hz => .inr hz)).trans (Hho3.out.mono (fun z _ hz => .inl hz))).trans ((Below.onlyGe HBr.out).mono (fun z _ hz => .inr hz))
        have hok := Hokb.out.onlyOut hOb (fun b hb => by rcases hb with rfl | hb; exact .inl (by omega); exact .inr hb)
        have hbk := Hbk3.out.below HBr.out (by omega)
        have Hbk := Lib.hid hbk
        have hbkl := hbk.lt
        obtain ⟨pk, ck, epk⟩ := Own.slice hok.own
        subst epk
        have cb := hbk.cells.c1
        have hhl : hsk.length ≤ 1000000 := by rw [hok.len, List.length_take]; omega
        have hvlt : ∀ q, (Value.slice pk hsk.length ck).ownBlock = some q → W5.heap.size ≤ q ∧ q < Wb.heap.size := fun q e => Own.lt Hokb.out.own q e
        obtain ⟨vE, wE, hrE, hoE, haE⟩ := appH1 hok.own px (key.length + la.length) cx rfl (by omega) (by omega)
        have hsn := hok.snoc (Own.lower Hoxe.out (by omega)) (fun q hq e => by
          have h1 := (Own.lt Hoxe.out q hq).1
          have h2 := (hvlt q e).2
          omega) hoE haE
        have hO1 : Only (fun z => Value.ownBlock (.slice pk hsk.length ck) = some z) wo wE := ⟨haE.grown.os, haE.grown.tape, haE.grown.output, haE.grown.size, fun k hk hA => haE.grown.block k hk (fun e => hA e.symm)⟩
        have HbE := Lib.hid (hO1.blk hbk (fun e => by have := (hvlt _ e).1; omega))
        have hlE := (hO1.block L (by omega) (fun e => by have := (hvlt _ e).1; omega)).trans ((HBr.out.block L (by omega)).trans Hl3.out)
        have hdE := (hO1.block W4.heap.size (by omega) (fun e => by have := (hvlt _ e).1; omega)).trans ((HBr.out.block W4.heap.size (by omega)).trans Hdf3.out)
        have hneE : vE.ownBlock ≠ some g := haE.apart (by omega) hne
        have hgE : wE.heap[g]? = W3.heap[g]? := (hO1.block g (by omega) hne).trans (HBr.out.block g hgl)
        have HonE : Hid (Only (fun z => z = w3.heap.size ∨ z = L) W5 wE) := Lib.hid (Only.into2 (Only.into2 Hon3.out (Below.onlyGe HBr.out) (fun b hb h => by omega)) hO1 (fun b hb h => by have := (hvlt _ h).1; omega))
        have HsnE := Lib.hid hsn
        have HlE := Lib.hid hlE
        have HdE := Lib.hid hdE
        have HneE := Lib.hid hneE
        have HgE := Lib.hid hgE
        have HzwE := Lib.hid hO1.size
        obtain ⟨pE, qE, eE⟩ := Own.slice hoE
        subst eE
        clear hox herr hok hbk hsn hO1 hlE hdE hneE hgE hoE haE hOb
        generalize (hsk ++ [Value.slice px (key.length + la.length) cx]).length = nE at *
        generalize key.length + la.length = nx at *
        gi_wp2_with (gi_at_builtin; refine AtApp.of ?_)
        refine AtApp.goIn hrE rfl rfl rfl rfl ?_
        have ce := HbE.out.cells.c1
        have fe := HbE.out.free 0
        gi_wp2_with fail
        have hS : Only (· = w3.heap.size) wE (wE.setCell ⟨w3.heap.size, 0, none⟩ (.slice pE nE qE)) := Only.setCell (A := (· = w3.heap.size)) wE (p := ⟨w3.heap.size, 0, none⟩) rfl _
        have hlF := (hS.block L (heap_lt HlE.out) (show ¬ L = w3.heap.size by omega)).trans HlE.out
        have hdF := (hS.block W4.heap.size (heap_lt HdE.out) (show ¬ W4.heap.size = w3.heap.size by omega)).trans HdE.out
        have hsF := HsnE.out.onlyLow hS (fun b e => by have : b = w3.heap.size := e; omega)
        have hbF := HbE.out.set 0 (.slice pE nE qE)
        have hgF := (hS.block g (by have := HzwE.out; omega) (show ¬ g = w3.heap.size by omega)).trans HgE.out
        have hzF := hS.size
        have honF := HonE.out.trans (hS.mono (fun z _ hz => .inl hz))
        generalize wE.setCell ⟨w3.heap.size, 0, none⟩ (.slice pE nE qE) = wF at *
        have hp : Only (· = L) wF (wF.putObj L (.loop (RL .ready none))) := Only.putObj (A := (· = L)) _ (b := L) rfl _
        refine roundPost_normalR HRL.out hlF (.inl ⟨rfl, ⟨World.putObj_heap_same (heap_lt hlF), (hp.block W4.heap.size (heap_lt hdF) (show ¬ W4.heap.size = L by omega)).trans hdF, honF.trans (hp.mono (fun z _ hz => .inr hz)), hge, ⟨_, _, hp.blk hbF (show ¬ w3.heap.size = L by omega), by rw [Htk.out]; exact hsF.onlyLow hp (fun b e => by have : b = L := e; omega), HneE.out⟩, fun j hj => by
          by_cases e : j = k
          · subst e; exact HGk1.out
          · exact Hgood.out j (by omega)⟩, ?_⟩)
        exact (hp.block g (by have := HzwE.out; omega) (show ¬ g = L by omega)).trans (hgF.trans (Hho3.out.block g (by omega) (show ¬ g = L by omega)))
  case hend =>
    have HTl : Hid (T.length ≤ 1000000) := Lib.hid (by
      rw [HT.out, List.length_map]
      have : (keysL (fun x => pickL x at') l).length ≤ (l.map (fun x => pickL x at')).length := canon_len_le _
      rw [List.length_map] at this
      omega)
    have HTx : Hid (∀ x ∈ T, x.length ≤ 4000000000000) := Lib.hid (fun x hx => by
      rw [HT.out] at hx
      obtain ⟨kk, hkk, rfl⟩ := List.mem_map.1 hx
      obtain ⟨y, hy, hyk⟩ := List.mem_map.1 ((canon_mem cmpR_cmp (l.map (fun x => pickL x at')) _).1 hkk)
      unfold foldRow
      rw [List.length_append, List.length_map, ← hyk]
      show (pickL y at').length + la.length ≤ _
      unfold pickL
      rw [List.length_map]
      omega)
    have HTn : Hid ((keysL (fun x => pickL x at') l).length = T.length) := Lib.hid (by rw [HT.out, List.length_map])
    rintro e W6 ⟨⟨v, rfl⟩, ⟨g, hJ⟩ | hZ⟩
    · have hgood := HGood.out (fun j hj => hJ.good j hj)
      rw [HTn.out] at hJ
      refine ⟨⟨v, rfl⟩, .ready, none, by simp, hJ.lp, ?_⟩
      have hlt := heap_lt hJ.lp
      have h7 : Only (· = W4.heap.size + 1) W6 (W6.putObj (W4.heap.size + 1) (.loop (RL .exhausted none))) := Only.putObj (A := (· = W4.heap.size + 1)) _ (b := W4.heap.size + 1) rfl _
      show Exit.inBlock 1 _ Exit.normal _ (W6.putObj (W4.heap.size + 1) (.loop (RL .exhausted none)))
      generalize W6.putObj (W4.heap.size + 1) (.loop (RL .exhausted none)) = W7 at *
      obtain ⟨v7, hs7, hb7, ho7, -⟩ := hJ.out
      rw [List.take_of_length_le (Nat.le_refl _)] at ho7
      have hL7 := ho7.onlyLow h7 (fun b e => by have : b = W4.heap.size + 1 := e; omega)
      have hb77 := h7.blk hb7 (show ¬ w3.heap.size = W4.heap.size + 1 by omega)
      have hon7 : Only (fun z => z = w3.heap.size ∨ z = W4.heap.size + 1) W5 W7 := hJ.on.trans (h7.mono (fun z _ hz => .inr hz))
      have hB7 : Below w.heap.size w W7 := HBw5.out.trans (hon7.below HBw5.out.size (fun z hz => by rcases hz with rfl | rfl <;> omega))
      have h6b := hon7.blk Hb65.out (show ¬ (w.heap.size + 1 + 1 = w3.heap.size ∨ w.heap.size + 1 + 1 = W4.heap.size + 1) by omega)
      have h7b := hon7.blk Hb75.out (show ¬ (w.heap.size + 1 + 1 + 1 = w3.heap.size ∨ w.heap.size + 1 + 1 + 1 = W4.heap.size + 1) by omega)
      have hD7 := (hon7.block W4.heap.size (by omega) (show ¬ (W4.heap.size = w3.heap.size ∨ W4.heap.size = W4.heap.size + 1) by omega)).trans HlD.out
      have ht7 := Sl.agree Ht5.out Strs.loc (hon7.agree (hi := x4.heap.size) (lo := x3.heap.size) (by omega) (fun z hz => by rcases hz with rfl | rfl <;> omega))
      obtain ⟨p7, q7, e7⟩ := Own.slice hL7.own
      rw [hL7.len] at e7
      subst e7
      have c0 := hb77.cells.c1
      have HR2 := HR.out
      rw [He1.out, if_pos hgood, HTg.out] at HR2
      have HR2 := Lib.hid HR2
      have HL7 := Lib.hid hL7
      have Ht7 := Lib.hid ht7
      have HB7 := Lib.hid hB7
      have H6b := Lib.hid h6b
      have H7b := Lib.hid h7b
      have HD7 := Lib.hid hD7
      have hz57 := hon7.size
      clear hJ h7 hL7 hb77 hon7 hB7 h6b h7b hD7 hb7 ho7 hlt ht7 hgood
      go_wp2_with fail
      refine OfK_any W5.heap.size W7.heap.size x3.heap.size x4.heap.size (foldCols cols la) T _ _ W7 Ht7.out HL7.out.rws (Nat.le_refl _) (by omega) (by have := HTl.out; omega) HTx.out _ (fun W8 cv8 lv8 hs8 hB8 hT8 hR8 => ?_)
      have HR3 := HR2.out
      generalize ofErr (foldCols cols la) T = er at *
      generalize okL er (foldCols cols la) = oc at *
      generalize okL er (relCanon T) = ol at *
      have hz8 := hB8.size
      have h6 := H6b.out.below hB8 (by omega)
      have h7 := H7b.out.below hB8 (by omega)
      have hD8 := (hB8.block W4.heap.size (by omega)).trans HD7.out
      obtain ⟨p8, q8, rfl⟩ := Own.slice hT8
      obtain ⟨p9, q9, rfl⟩ := Own.slice hR8.own
      obtain ⟨q0, q1⟩ := h6.cells.c2
      simp only [Nat.zero_add] at q1
      have q2 := h7.cells.c1
      have f0 := h6.free 0
      have f1 := h6.free 1
      have f2 := h7.free 0
      have HTt := Lib.hid (fun (fn : Func) (tmps : Array Value) hfn ht6 ht7 => fdTail (n := 3) (fn := fn) (tmps := tmps) (R := R) (Ds := [W4.heap.size]) (err := er) hfn ht6 ht7 h6 h7 (by omega) (by omega) (by omega) (HB7.out.trans (hB8.mono (by omega))) hT8 hR8 (by omega) (by omega) (by omega) (by simp) (fun D hD => by rw [List.mem_singleton.1 hD]; exact ⟨by omega, by omega, hD8⟩) (fun w' hB' hT' hR' => HR3 w' _ _ _ hB' hT' hR'))
      clear h6 h7 hD8 hT8 hR8 HR3 hB8
      generalize oc.length = noc at *
      generalize hs8.length = nol at *
      go_wp2_with fail
      exact HTt.out _ _ rfl rfl rfl
    · obtain ⟨hbad, hl6, hd6, hB6, hb66, hb67⟩ := hZ
      have HR2 := HR.out
      rw [He1.out, if_neg (by rw [hbad]; simp)] at HR2
      refine ⟨⟨v, rfl⟩, .done, some .ret, by simp, hl6, ?_⟩
      have hlt := heap_lt hl6
      have h7 : Only (· = W4.heap.size + 1) W6 (W6.putObj (W4.heap.size + 1) (.loop (RL .exhausted (some .ret)))) := Only.putObj (A := (· = W4.heap.size + 1)) _ (b := W4.heap.size + 1) rfl _
      dsimp only
      generalize W6.putObj (W4.heap.size + 1) (.loop (RL .exhausted (some .ret))) = W7 at *
      have hz67 := h7.size
      have hd7 : W7.heap[W4.heap.size]? = some (.deferred (some [])) := (h7.block _ (by omega) (show ¬ W4.heap.size = W4.heap.size + 1 by omega)).trans hd6
      have hB7 := hB6.trans (h7.below (by have := hB6.size; omega) (fun k e => by have : k = W4.heap.size + 1 := e; omega))
      have hb76 := h7.blk hb66 (show ¬ w.heap.size + 1 + 1 = W4.heap.size + 1 by omega)
      have hb77 := h7.blk hb67 (show ¬ w.heap.size + 1 + 1 + 1 = W4.heap.size + 1 by omega)
      have HTt := Lib.hid (fun (fn : Func) (tmps : Array Value) hfn ht6 ht7 => fdLeave (n := 3) (fn := fn) (tmps := tmps) (R := R) (lo := W4.heap.size + 1) (cols := []) (rs := []) (hs := []) (Ds := [W4.heap.size]) (err := 160) hfn ht6 ht7 hb76 hb77 hB7 (Own.nil _ _ _ _ _) (OwnR.nil _ _) (by omega) (by simp) (fun D hD => by rw [List.mem_singleton.1 hD]; exact ⟨by omega, by omega, hd7⟩) (fun w' hB' hT' hR' => HR2 w' _ _ _ hB' (by rw [okL_no (by omega)]; exact hT') (by rw [okL_no (by omega)]; exact hR')))
      clear hbad hl6 hd6 hB6 hb66 hb67 h7 hd7 hB7 hb76 hb77 HR2 hlt
      go_wp2_with fail
      exact HTt.out _ _ rfl rfl rfl
end Go.Proofs.YtmconajkgjfplaaGreat
end

/- The law FoldTells, walked. (Printed by gre.py.) -/
section
set_option linter.unusedVariables false
set_option linter.unusedSimpArgs false
namespace Go.Proofs.YtmconajkgjfplaaGreat
open Go.RowKit
set_option linter.unusedVariables false
set_option linter.unusedSimpArgs false
attribute [local go_sem ↓] Go.wp_at_zero Go.wp_at_succ
set_option maxRecDepth 1000000 in
set_option maxHeartbeats 100000000 in
theorem FoldTells_any (lo hi lc hc l2 h2 l3 h3 : Nat) (rc : List S) (ac : Option Addr) (cc : Nat) (l : List (List V)) (lv : Value) (cols : List S) (cv : Value) (la : List Ag) (lav : Value) (w : World) (hrc : Strs lc hc w (.slice ac rc.length cc) rc) (hhc : hc ≤ w.heap.size) (hv : Rws lo hi w lv l) (hhi : hi ≤ w.heap.size) (hcols : Strs l2 h2 w cv cols) (hh2 : h2 ≤ w.heap.size) (hla : Ags l3 h3 w lav la) (hh3 : h3 ≤ w.heap.size) (hok : ∀ x ∈ l, ∀ a ∈ x, a.ok) (R : Ending → World → Prop)
    (hR : ∀ w', Below w.heap.size w w' → R (.returned (.bool true)) w') :
    Calls Tryz.prog 4 #[.agg #[.slice ac rc.length cc, lv], cv, lav] w R := by
  have HR := Lib.hid hR
  have Hv := Lib.hid hv
  have Hrc := Lib.hid hrc
  have Ho := Lib.hid hcols
  have Hla := Lib.hid hla
  have Hok := Lib.hid hok
  have Hrs : Hid (∀ x ∈ l, ∀ a ∈ x, a.s.length ≤ 9223372036854775807) := Lib.hid (fun x hx a ha => ok_len (hok x hx a ha))
  obtain ⟨av, av2, rfl, -, -, -, -⟩ := hv.form
  obtain ⟨ak, ck, rfl, -, -, -, -⟩ := hcols.form
  obtain ⟨al, cl, rfl, -, -, -, -⟩ := hla.form
  have hcl63 := hcols.len
  have hrl63 := hrc.len
  have hll63 := hla.len
  clear hR hv hrc hcols hla hok
  go_enter Tryz.func4, Tryz.ntmps4
  go_upto_region 1 with fail
  have hBa := alloc_below w (.cells #[.slice ac rc.length cc, .slice av l.length av2] 25)
  have hba := Blk.new w [.slice ac rc.length cc, .slice av l.length av2] 25 rfl
  generalize w.alloc (.cells #[.slice ac rc.length cc, .slice av l.length av2] 25) = wa at *
  have HBa := Lib.hid hBa
  have Hba := Lib.hid hba
  have hza := hBa.size
  have hla := hba.lt
  obtain ⟨c0, c1⟩ := hba.cells.c2
  simp only [Nat.zero_add] at c1
  clear hBa hba
  go_wp2_with fail
  refine great16_any lo hi rc ac cc l _ ak cols.length ck wa (Sl.below Hv.out rowE_loc HBa.out hhi) (by omega) (by omega) (by omega) _ (fun wb hBb => ?_)
  have HBb := Lib.hid (HBa.out.trans (hBb.mono hza))
  have Hbb := Lib.hid (Hba.out.below hBb hla)
  have hzb := hBb.size
  clear c0 c1 hBb
  cases hg : great16B rc l cols.length
  case true =>
    have hr := HR.out wb HBb.out
    clear hg
    go_wp2_with fail
    first | exact hr | exact fin hr rfl
  obtain ⟨hcl, hll, hkl, hxl⟩ := great16_no hg
  have Hxl := Lib.hid hxl
  clear hg hxl Hba HBa
  by_cases h40 : 40 < la.length
  · have h40i : (40 : Int) < (la.length : Int) := by omega
    have hr := HR.out wb HBb.out
    go_wp2_with fail
    first | exact hr | exact fin hr rfl
  have h40i : ¬ (40 : Int) < (la.length : Int) := by omega
  go_wp2_with fail
  go_loopw [7, 24] (fun t7 t24 wr => ∃ k : Nat, k ≤ la.length ∧ t24 = .int .i64 k ∧ Below wb.heap.size wb wr ∧ OwnAg wb.heap.size wr t7 (la.take k)) (fun _ t24 _ => la.length - (intOf t24).toNat)
  case atStart => exact ⟨0, Nat.zero_le _, rfl, Below.refl _ _, by simpa using Own.nil _ _ _ _ _⟩
  case round =>
    obtain ⟨k, hk, rfl, hBk, hown⟩ := hrel
    obtain ⟨wo, ewo⟩ : ∃ x, x = wr := ⟨_, rfl⟩
    subst ewo
    have HBk := Lib.hid hBk
    have Hown := Lib.hid hown
    have hz := hBk.size
    have kk0 : (0 : Int) ≤ (k : Int) := by omega
    obtain ⟨p7, q7, e7⟩ := Own.slice hown
    have el7 : (la.take k).length = k := by rw [List.length_take, Nat.min_eq_left hk]
    rw [el7] at e7
    have Hel7 := Lib.hid el7
    subst e7
    have HBw := Lib.hid (HBb.out.trans (hBk.mono HBb.out.size))
    have hzw := HBb.out.size
    clear hBk hown el7
    by_cases hlt : k < la.length
    · obtain ⟨ao', cap', e', -, -, -, hc⟩ := (Sl.below Hla.out Ags.loc HBb.out hh3).form
      injection e' with e1 e2 e3
      subst e1 e3
      obtain ⟨b, off, rfl, hb1, hb2, hcc⟩ := hc k hlt
      obtain ⟨cs, -, hcs, ecs⟩ := hcc k hlt
      obtain rfl : cs = Ag.enc la[k] := ecs
      have Hq : Hid (CellsAt wb b (off + k * 3) (Ag.enc la[k]) ∧ b < wb.heap.size) := Lib.hid ⟨hcs, by omega⟩
      have kkl : (k : Int) < (la.length : Int) := by omega
      have Hst : Hid (la.take (k + 1) = la.take k ++ [la[k]]) := Lib.hid (List.take_succ_eq_append_getElem hlt)
      clear hcc hcs hc e2
      generalize la[k] = a at *
      have hd : Below wo.heap.size wo wo.drew := (Below.refl _ _).drew
      have HBd : Hid (Below wb.heap.size wb wo.drew) := Lib.hid (HBk.out.trans (hd.mono hz))
      obtain ⟨v8, w8, hr7, ho8, ha8⟩ := appAg1 (Own.kept Hown.out hd) a (n := wo.drew.heap.size) rfl (by rw [Hel7.out]; omega) HBd.out.size
      have HS : Hid (Below wb.heap.size wb w8) := Lib.hid (HBd.out.trans (ha8.below (B := wb.heap.size) HBd.out.size (fun q e => (Own.lt Hown.out q e).1)))
      have Ho8 : Hid (OwnAg wb.heap.size w8 v8 (la.take (k + 1))) := Lib.hid (by rw [Hst.out]; exact ho8)
      obtain ⟨p8, c8, e8⟩ := Own.slice ho8
      subst e8
      clear ho8 ha8 hd
      generalize (la.take k ++ [a]).length = n8 at *
      go_upto_region 7 with fail
      refine wp_region_held_drew (S := fun w' => Below wb.heap.size wb w') (by kernel_rfl) HBd.out (fun hHeld => ?_)
      refine wpAnyH_take (i := 0) (v := .slice p7 k q7) rfl (by kernel_rfl) (by kernel_rfl) (by kernel_rfl) (fun _ _ _ h => h) (Or.inl ⟨by rfl, ?_⟩) hHeld ?_
      · intro w' hSw; go_simp
      try simp only [Act.put, List.getElem_toArray, List.getElem_cons_succ, List.getElem_cons_zero, List.setIfInBounds_toArray, List.set_cons_zero, List.set_cons_succ]
      refine wpAnyH_take (i := 1) (v := .slice (some ⟨b, off, none⟩) la.length cl) rfl (by kernel_rfl) (by kernel_rfl) (by kernel_rfl) (fun _ _ _ h => h) (Or.inl ⟨by rfl, ?_⟩) hHeld ?_
      · intro w' hSw; go_simp
      try simp only [Act.put, List.getElem_toArray, List.getElem_cons_succ, List.getElem_cons_zero, List.setIfInBounds_toArray, List.set_cons_zero, List.set_cons_succ]
      refine wpAnyH_take (i := 2) (v := .int .i64 ((k : Int))) rfl (by kernel_rfl) (by kernel_rfl) (by kernel_rfl) (fun _ _ _ h => h) (Or.inl ⟨by rfl, ?_⟩) hHeld ?_
      · intro w' hSw; go_simp
      try simp only [Act.put, List.getElem_toArray, List.getElem_cons_succ, List.getElem_cons_zero, List.setIfInBounds_toArray, List.set_cons_zero, List.set_cons_succ]
      refine wpAnyH_take (i := 3) (v := .pointer (some ⟨b, off + k * 3, none⟩)) rfl (by kernel_rfl) (by kernel_rfl) (by kernel_rfl) (fun _ _ _ h => h) (Or.inl ⟨by rfl, ?_⟩) hHeld ?_
      · intro w' hSw; go_simp
      try simp only [Act.put, List.getElem_toArray, List.getElem_cons_succ, List.getElem_cons_zero, List.setIfInBounds_toArray, List.set_cons_zero, List.set_cons_succ]
      refine wpAnyH_take (i := 4) (v := .pointer (some ⟨b, off + k * 3, none⟩)) rfl (by kernel_rfl) (by kernel_rfl) (by kernel_rfl) (fun _ _ _ h => h) (Or.inl ⟨by rfl, ?_⟩) hHeld ?_
      · intro w' hSw; go_simp
      try simp only [Act.put, List.getElem_toArray, List.getElem_cons_succ, List.getElem_cons_zero, List.setIfInBounds_toArray, List.set_cons_zero, List.set_cons_succ]
      refine wpAnyH_take (i := 5) (v := .int .i64 (a.op)) rfl (by kernel_rfl) (by kernel_rfl) (by kernel_rfl) (fun _ _ _ h => h) (Or.inl ⟨by rfl, ?_⟩) hHeld ?_
      · intro w' hSw; have kx := (Hq.out.1.agree (.below hSw (Nat.le_refl _)) (Nat.zero_le _) Hq.out.2).c3.1; go_simp
      try simp only [Act.put, List.getElem_toArray, List.getElem_cons_succ, List.getElem_cons_zero, List.setIfInBounds_toArray, List.set_cons_zero, List.set_cons_succ]
      refine wpAnyH_take (i := 6) (v := .slice (some ⟨b, off, none⟩) la.length cl) rfl (by kernel_rfl) (by kernel_rfl) (by kernel_rfl) (fun _ _ _ h => h) (Or.inl ⟨by rfl, ?_⟩) hHeld ?_
      · intro w' hSw; go_simp
      try simp only [Act.put, List.getElem_toArray, List.getElem_cons_succ, List.getElem_cons_zero, List.setIfInBounds_toArray, List.set_cons_zero, List.set_cons_succ]
      refine wpAnyH_take (i := 7) (v := .int .i64 ((k : Int))) rfl (by kernel_rfl) (by kernel_rfl) (by kernel_rfl) (fun _ _ _ h => h) (Or.inl ⟨by rfl, ?_⟩) hHeld ?_
      · intro w' hSw; go_simp
      try simp only [Act.put, List.getElem_toArray, List.getElem_cons_succ, List.getElem_cons_zero, List.setIfInBounds_toArray, List.set_cons_zero, List.set_cons_succ]
      refine wpAnyH_take (i := 8) (v := .pointer (some ⟨b, off + k * 3, none⟩)) rfl (by kernel_rfl) (by kernel_rfl) (by kernel_rfl) (fun _ _ _ h => h) (Or.inl ⟨by rfl, ?_⟩) hHeld ?_
      · intro w' hSw; go_simp
      try simp only [Act.put, List.getElem_toArray, List.getElem_cons_succ, List.getElem_cons_zero, List.setIfInBounds_toArray, List.set_cons_zero, List.set_cons_succ]
      refine wpAnyH_take (i := 9) (v := .pointer (some ⟨b, off + k * 3 + 1, none⟩)) rfl (by kernel_rfl) (by kernel_rfl) (by kernel_rfl) (fun _ _ _ h => h) (Or.inl ⟨by rfl, ?_⟩) hHeld ?_
      · intro w' hSw; go_simp
      try simp only [Act.put, List.getElem_toArray, List.getElem_cons_succ, List.getElem_cons_zero, List.setIfInBounds_toArray, List.set_cons_zero, List.set_cons_succ]
      refine wpAnyH_take (i := 10) (v := .string ⟨a.col.toArray⟩) rfl (by kernel_rfl) (by kernel_rfl) (by kernel_rfl) (fun _ _ _ h => h) (Or.inl ⟨by rfl, ?_⟩) hHeld ?_
      · intro w' hSw; have kx := (Hq.out.1.agree (.below hSw (Nat.le_refl _)) (Nat.zero_le _) Hq.out.2).c3.2.1; go_simp
      try simp only [Act.put, List.getElem_toArray, List.getElem_cons_succ, List.getElem_cons_zero, List.setIfInBounds_toArray, List.set_cons_zero, List.set_cons_succ]
      refine wpAnyH_take (i := 11) (v := .slice (some ⟨b, off, none⟩) la.length cl) rfl (by kernel_rfl) (by kernel_rfl) (by kernel_rfl) (fun _ _ _ h => h) (Or.inl ⟨by rfl, ?_⟩) hHeld ?_
      · intro w' hSw; go_simp
      try simp only [Act.put, List.getElem_toArray, List.getElem_cons_succ, List.getElem_cons_zero, List.setIfInBounds_toArray, List.set_cons_zero, List.set_cons_succ]
      refine wpAnyH_take (i := 12) (v := .int .i64 ((k : Int))) rfl (by kernel_rfl) (by kernel_rfl) (by kernel_rfl) (fun _ _ _ h => h) (Or.inl ⟨by rfl, ?_⟩) hHeld ?_
      · intro w' hSw; go_simp
      try simp only [Act.put, List.getElem_toArray, List.getElem_cons_succ, List.getElem_cons_zero, List.setIfInBounds_toArray, List.set_cons_zero, List.set_cons_succ]
      refine wpAnyH_take (i := 13) (v := .pointer (some ⟨b, off + k * 3, none⟩)) rfl (by kernel_rfl) (by kernel_rfl) (by kernel_rfl) (fun _ _ _ h => h) (Or.inl ⟨by rfl, ?_⟩) hHeld ?_
      · intro w' hSw; go_simp
      try simp only [Act.put, List.getElem_toArray, List.getElem_cons_succ, List.getElem_cons_zero, List.setIfInBounds_toArray, List.set_cons_zero, List.set_cons_succ]
      refine wpAnyH_take (i := 14) (v := .pointer (some ⟨b, off + k * 3 + 2, none⟩)) rfl (by kernel_rfl) (by kernel_rfl) (by kernel_rfl) (fun _ _ _ h => h) (Or.inl ⟨by rfl, ?_⟩) hHeld ?_
      · intro w' hSw; go_simp
      try simp only [Act.put, List.getElem_toArray, List.getElem_cons_succ, List.getElem_cons_zero, List.setIfInBounds_toArray, List.set_cons_zero, List.set_cons_succ]
      refine wpAnyH_take (i := 15) (v := .string ⟨a.nm.toArray⟩) rfl (by kernel_rfl) (by kernel_rfl) (by kernel_rfl) (fun _ _ _ h => h) (Or.inl ⟨by rfl, ?_⟩) hHeld ?_
      · intro w' hSw; have kx := (Hq.out.1.agree (.below hSw (Nat.le_refl _)) (Nat.zero_le _) Hq.out.2).c3.2.2; go_simp
      try simp only [Act.put, List.getElem_toArray, List.getElem_cons_succ, List.getElem_cons_zero, List.setIfInBounds_toArray, List.set_cons_zero, List.set_cons_succ]
      refine wpAnyH_take (i := 16) (v := .agg #[.int .i64 (a.op), .string ⟨a.col.toArray⟩, .string ⟨a.nm.toArray⟩]) rfl (by kernel_rfl) (by kernel_rfl) (by kernel_rfl) (fun _ _ _ h => h) (Or.inl ⟨by rfl, ?_⟩) hHeld ?_
      · intro w' hSw; go_simp
      try simp only [Act.put, List.getElem_toArray, List.getElem_cons_succ, List.getElem_cons_zero, List.setIfInBounds_toArray, List.set_cons_zero, List.set_cons_succ]
      refine wpAnyH_ready (rs := [17]) (by kernel_rfl) (by simp) ?_
      have hbr : (Instr.buildSlice 47 1 #[(0, .agg #[.int .i64 a.op, .string ⟨a.col.toArray⟩, .string ⟨a.nm.toArray⟩])]).run Tryz.prog wo.drew = .ok (.slice (some ⟨wo.drew.heap.size, 0, none⟩) 1 1) (wo.drew.alloc (.cells #[.int .i64 a.op, .string ⟨a.col.toArray⟩, .string ⟨a.nm.toArray⟩] 48)) := by go_simp
      refine allVal rfl (by kernel_rfl) (execBuild hbr rfl (by kernel_rfl)) (HBd.out.alloc HBd.out.size _) ?_ AllReadyH.nil
      try simp only [Act.put, List.getElem_toArray, List.getElem_cons_succ, List.getElem_cons_zero, List.setIfInBounds_toArray, List.set_cons_zero, List.set_cons_succ]
      refine wpAnyH_ready (rs := [18]) (by kernel_rfl) (by simp) ?_
      refine allVal rfl (by kernel_rfl) (execApp hr7 rfl (by kernel_rfl) (by kernel_rfl)) HS.out ?_ AllReadyH.nil
      clear hHeld
      have hHeld := HS.out
      try simp only [Act.put, List.getElem_toArray, List.getElem_cons_succ, List.getElem_cons_zero, List.setIfInBounds_toArray, List.set_cons_zero, List.set_cons_succ]
      refine wpAnyH_take (i := 19) (v := .slice p8 n8 c8) rfl (by kernel_rfl) (by kernel_rfl) (by kernel_rfl) (fun _ _ _ h => h) (Or.inl ⟨by rfl, ?_⟩) hHeld ?_
      · intro w' hSw; go_simp
      try simp only [Act.put, List.getElem_toArray, List.getElem_cons_succ, List.getElem_cons_zero, List.setIfInBounds_toArray, List.set_cons_zero, List.set_cons_succ]
      refine wpAnyH_done (by kernel_rfl) ?_ _
      clear hHeld
      go_wp2_with fail
      go_roundw
      case rel => exact ⟨k + 1, by omega, by go_num, HS.out, Ho8.out⟩
      case measure => simp [intOf]; omega
    · obtain rfl : k = la.length := by omega
      have llt : ¬ ((la.length : Nat) : Int) < (la.length : Int) := by omega
      rw [List.take_length] at Hown
      have Hbo := Lib.hid (Hbb.out.below HBk.out (by omega))
      obtain ⟨c0, c1⟩ := Hbo.out.cells.c2
      simp only [Nat.zero_add] at c1
      clear hk
      go_wp2_with fail
      refine lawOwn16_any lo hi lc hc rc ac cc l _ wo (Sl.below Hrc.out Strs.loc HBw.out hhc) (by omega) (Sl.below Hv.out rowE_loc HBw.out hhi) (by omega) (by omega) (by omega) (fun x hx => by have := Hxl.out x hx; omega) _ (fun w1 ycv ylv hB1 hyc hyl => ?_)
      have HB1 := Lib.hid hB1
      have Hyc1 := Lib.hid hyc
      have Hyl1 := Lib.hid hyl
      have hz1 := hB1.size
      obtain ⟨ayc, cyc, rfl, -, -, -, -⟩ := hyc.form
      obtain ⟨ayl, cyl, rfl, -, -, -, -⟩ := hyl.form
      clear hB1 hyc hyl c0 c1
      go_upto_region 10 with fail
      have hBx := alloc_below w1 (.cells #[.slice ayc rc.length cyc, .slice ayl l.length cyl] 25)
      have hbx := Blk.new w1 [.slice ayc rc.length cyc, .slice ayl l.length cyl] 25 rfl
      generalize w1.alloc (.cells #[.slice ayc rc.length cyc, .slice ayl l.length cyl] 25) = w2 at *
      have hz2 := hBx.size
      have hl9 := hbx.lt
      have HB12 := Lib.hid (HB1.out.trans (hBx.mono hz1))
      have HBw2 := Lib.hid (HBw.out.trans (HB12.out.mono (by omega)))
      have H9 := Lib.hid hbx
      have H3 := Lib.hid (Hbo.out.below HB12.out (by omega))
      have Hyc := Lib.hid (Sl.below Hyc1.out Strs.loc hBx (Nat.le_refl _))
      have Hyl := Lib.hid (Sl.below Hyl1.out rowE_loc hBx (Nat.le_refl _))
      have Hm := Lib.hid (Own.kept Hown.out HB12.out)
      obtain ⟨b9, eb9⟩ : ∃ b, b = w1.heap.size := ⟨_, rfl⟩
      rw [← eb9] at H9 hl9 ⊢
      have Hb9 := Lib.hid eb9
      obtain ⟨c0, c1⟩ := H9.out.cells.c2
      simp only [Nat.zero_add] at c1
      clear hBx hbx Hyc1 Hyl1 eb9
      go_wp2_with fail
      refine Fold_any wo.heap.size w1.heap.size wo.heap.size w1.heap.size l2 h2 l3 h3 rc _ _ l _ cols _ la _ w2 Hyc.out (by omega) Hyl.out (by omega) (Sl.below Ho.out Strs.loc HBw2.out hh2) (by omega) (Sl.below Hla.out Ags.loc HBw2.out hh3) (by omega) (by omega) (by omega) (by omega) Hok.out _ (fun w4 fcv flv fhs hB4 hT4 hR4 => ?_)
      obtain ⟨e, he⟩ : ∃ e, e = foldErr rc cols la l := ⟨_, rfl⟩
      obtain ⟨EC, hEC⟩ : ∃ x, x = okL (foldErr rc cols la l) (foldCols cols la) := ⟨_, rfl⟩
      obtain ⟨EL, hEL⟩ : ∃ x, x = okL (foldErr rc cols la l) (relCanon (foldRows rc cols la l)) := ⟨_, rfl⟩
      have Hrsm : Hid (∀ x ∈ EL, ∀ a ∈ x, a.s.length ≤ 9223372036854775807) := Lib.hid (fun x hx => by rw [hEL] at hx; exact row_small Hrs.out x (relCanon_mem (okL_mem hx)))
      rw [← hEC] at hT4
      rw [← hEL] at hR4
      rw [← he]
      have He := Lib.hid he
      have HEC := Lib.hid hEC
      have HEL := Lib.hid hEL
      obtain ⟨pf, qf, rfl⟩ := Own.slice hT4
      obtain ⟨ph, qh, eh⟩ := Own.slice hR4.own
      rw [hR4.len] at eh
      subst eh
      have hz4 := hB4.size
      clear he hEC hEL c0 c1
      go_upto_region 11 with fail
      have hBx := alloc_below w4 (.cells #[.slice pf EC.length qf, .slice ph EL.length qh] 25)
      have hbx := Blk.new w4 [.slice pf EC.length qf, .slice ph EL.length qh] 25 rfl
      generalize w4.alloc (.cells #[.slice pf EC.length qf, .slice ph EL.length qh] 25) = w5 at *
      have hz5 := hBx.size
      have HB25 := Lib.hid (hB4.trans (hBx.mono hz4))
      have HBw5 := Lib.hid (HBw2.out.trans (HB25.out.mono (by omega)))
      have H10 := Lib.hid hbx
      have hl10 := hbx.lt
      have H9' := Lib.hid (H9.out.below HB25.out hl9)
      have H3' := Lib.hid (H3.out.below HB25.out (by omega))
      have HfT := Lib.hid (Sl.below (OwnT.sl hT4) Strs.loc hBx (Nat.le_refl _))
      have HfR := Lib.hid (Sl.below (OwnR.rws hR4) rowE_loc hBx (Nat.le_refl _))
      have Hyc5 := Lib.hid (Sl.below Hyc.out Strs.loc HB25.out (by omega))
      have Hyl5 := Lib.hid (Sl.below Hyl.out rowE_loc HB25.out (by omega))
      have Hm5 := Lib.hid (Own.kept Hm.out HB25.out)
      obtain ⟨b10, eb10⟩ : ∃ b, b = w4.heap.size := ⟨_, rfl⟩
      rw [← eb10] at H10 hl10 ⊢
      obtain ⟨c0, c1⟩ := H3'.out.cells.c2
      simp only [Nat.zero_add] at c1
      clear hB4 hBx hbx hT4 hR4 eb10 H9 H3 Hyc Hyl Hm
      go_wp2_with fail
      refine ref16_any _ _ _ _ _ _ w5 _ (fun w6 hB6 => ?_)
      have hz6 := hB6.size
      have HBw6 := Lib.hid (HBw5.out.trans (hB6.mono (by omega)))
      have Hm6 := Lib.hid (Own.kept Hm5.out hB6)
      have HB56 := Lib.hid hB6
      clear hB6 c0 c1
      go_wp2_with fail
      refine refFold_any lo hi lc hc l2 h2 wb.heap.size w6.heap.size rc _ _ l _ cols _ la _ w6 (Sl.below Hrc.out Strs.loc HBw6.out hhc) (by omega) (Sl.below Hv.out rowE_loc HBw6.out hhi) (by omega) (Sl.below Ho.out Strs.loc HBw6.out hh2) (by omega) (OwnAg.sl Hm6.out) (Nat.le_refl _) (by omega) (by omega) (by omega) Hok.out _ (fun w7 gcv glv hB7 hT7 hR7 => ?_)
      rw [← HEC.out] at hT7
      rw [← HEL.out] at hR7
      rw [← He.out]
      obtain ⟨pg, qg, rfl, -, -, -, -⟩ := hT7.form
      obtain ⟨pk, qk, rfl, -, -, -, -⟩ := hR7.form
      have hz7 := hB7.size
      go_upto_region 12 with fail
      have hBx := alloc_below w7 (.cells #[.slice pg EC.length qg, .slice pk EL.length qk] 50)
      have hbx := Blk.new w7 [.slice pg EC.length qg, .slice pk EL.length qk] 50 rfl
      generalize w7.alloc (.cells #[.slice pg EC.length qg, .slice pk EL.length qk] 50) = w8 at *
      have hz8 := hBx.size
      have HB58 := Lib.hid (HB56.out.trans ((hB7.mono (by omega)).trans (hBx.mono (by omega))))
      have HBw8 := Lib.hid (HBw5.out.trans (HB58.out.mono (by omega)))
      have H12 := Lib.hid hbx
      have hl12 := hbx.lt
      have HgT := Lib.hid (Sl.below hT7 Strs.loc hBx (Nat.le_refl _))
      have HgR := Lib.hid (Sl.below hR7 rowE_loc hBx (Nat.le_refl _))
      have K9 := Lib.hid (H9'.out.below HB58.out (by omega))
      have K10 := Lib.hid (H10.out.below HB58.out hl10)
      have K3 := Lib.hid (H3'.out.below HB58.out (by omega))
      have GfT := Lib.hid (Sl.below HfT.out Strs.loc HB58.out (by omega))
      have GfR := Lib.hid (Sl.below HfR.out rowE_loc HB58.out (by omega))
      have Gyc := Lib.hid (Sl.below Hyc5.out Strs.loc HB58.out (by omega))
      have Gyl := Lib.hid (Sl.below Hyl5.out rowE_loc HB58.out (by omega))
      have Grc := Lib.hid (Sl.below Hrc.out Strs.loc HBw8.out hhc)
      have Gl := Lib.hid (Sl.below Hv.out rowE_loc HBw8.out hhi)
      obtain ⟨b12, eb12⟩ : ∃ b, b = w7.heap.size := ⟨_, rfl⟩
      rw [← eb12] at H12 hl12 ⊢
      have h98 : b9 < w8.heap.size := by omega
      have h108 : b10 < w8.heap.size := by omega
      have h38 : w.heap.size < w8.heap.size := by omega
      clear hB7 hBx hbx hT7 hR7 eb12 H9' H10 H3' HfT HfR
      refine wp_region_held_drew (S := fun w' => Below w8.heap.size w8 w') (by kernel_rfl) (Below.refl _ _).drew (fun hHeld => ?_)
      refine wpAnyH_take (i := 0) (v := .int .i64 e) rfl (by kernel_rfl) (by kernel_rfl) (by kernel_rfl) (fun _ _ _ h => h) (Or.inl ⟨by rfl, ?_⟩) hHeld ?_
      · intro w' hSw; go_simp
      try simp only [Act.put, List.getElem_toArray, List.getElem_cons_succ, List.getElem_cons_zero, List.setIfInBounds_toArray, List.set_cons_zero, List.set_cons_succ]
      refine wpAnyH_take (i := 1) (v := .int .i64 e) rfl (by kernel_rfl) (by kernel_rfl) (by kernel_rfl) (fun _ _ _ h => h) (Or.inl ⟨by rfl, ?_⟩) hHeld ?_
      · intro w' hSw; go_simp
      try simp only [Act.put, List.getElem_toArray, List.getElem_cons_succ, List.getElem_cons_zero, List.setIfInBounds_toArray, List.set_cons_zero, List.set_cons_succ]
      refine wpAnyH_take (i := 2) (v := .bool true) rfl (by kernel_rfl) (by kernel_rfl) (by kernel_rfl) (fun _ _ _ h => h) (Or.inl ⟨by rfl, ?_⟩) hHeld ?_
      · intro w' hSw; go_simp
      try simp only [Act.put, List.getElem_toArray, List.getElem_cons_succ, List.getElem_cons_zero, List.setIfInBounds_toArray, List.set_cons_zero, List.set_cons_succ]
      refine wpAnyH_take (i := 3) (v := .bool true) rfl (by kernel_rfl) (by kernel_rfl) (by kernel_rfl) (fun _ _ _ h => h) (Or.inl ⟨by rfl, ?_⟩) hHeld ?_
      · intro w' hSw; go_simp
      try simp only [Act.put, List.getElem_toArray, List.getElem_cons_succ, List.getElem_cons_zero, List.setIfInBounds_toArray, List.set_cons_zero, List.set_cons_succ]
      refine wpAnyH_take (i := 4) (v := .agg #[.slice pf EC.length qf, .slice ph EL.length qh]) rfl (by kernel_rfl) (by kernel_rfl) (by kernel_rfl) (fun _ _ _ h => h) (Or.inl ⟨by rfl, ?_⟩) hHeld ?_
      · intro w' hSw; have kc := (K10.out.below hSw h108).cells; have kx := kc.runVar (P := Tryz.prog) (t := 25) (fun _ => by kernel_rfl) (fun _ => by kernel_rfl); obtain ⟨z0, z1⟩ := kc.c2; simp only [Nat.zero_add] at z1; go_simp
      try simp only [Act.put, List.getElem_toArray, List.getElem_cons_succ, List.getElem_cons_zero, List.setIfInBounds_toArray, List.set_cons_zero, List.set_cons_succ]
      refine wpAnyH_take (i := 6) (v := .agg #[.slice pg EC.length qg, .slice pk EL.length qk]) rfl (by kernel_rfl) (by kernel_rfl) (by kernel_rfl) (fun _ _ _ h => h) (Or.inl ⟨by rfl, ?_⟩) hHeld ?_
      · intro w' hSw; have kc := (H12.out.below hSw hl12).cells; have kx := kc.runVar (P := Tryz.prog) (t := 50) (fun _ => by kernel_rfl) (fun _ => by kernel_rfl); obtain ⟨z0, z1⟩ := kc.c2; simp only [Nat.zero_add] at z1; go_simp
      try simp only [Act.put, List.getElem_toArray, List.getElem_cons_succ, List.getElem_cons_zero, List.setIfInBounds_toArray, List.set_cons_zero, List.set_cons_succ]
      refine wpAnyH_ready (rs := [5]) (by kernel_rfl) (by simp) ?_
      refine allCall (f := 17) (args := #[.agg #[.slice pf EC.length qf, .slice ph EL.length qh]]) rfl (by kernel_rfl) (by kernel_rfl) ?_ AllReadyH.nil
      refine ref16_any _ _ _ _ _ _ w8.drew _ (fun wq1 hB => ?_)
      refine ⟨_, rfl, hHeld.trans (hB.mono hHeld.size), ?_⟩
      have hHeld2 := hHeld.trans (hB.mono hHeld.size)
      clear hHeld
      have hHeld := hHeld2
      clear hHeld2
      clear hB
      try simp only [Act.put, List.getElem_toArray, List.getElem_cons_succ, List.getElem_cons_zero, List.setIfInBounds_toArray, List.set_cons_zero, List.set_cons_succ]
      refine wpAnyH_ready (rs := [7]) (by kernel_rfl) (by simp) ?_
      refine allCall (f := 18) (args := #[.agg #[.slice pf EC.length qf, .slice ph EL.length qh], .agg #[.slice pg EC.length qg, .slice pk EL.length qk]]) rfl (by kernel_rfl) (by kernel_rfl) ?_ AllReadyH.nil
      refine Same_any _ _ _ _ _ _ _ _ EC EL _ _ _ _ wq1 (Sl.below GfT.out Strs.loc hHeld (by omega)) (Sl.below HgT.out Strs.loc hHeld (by omega)) (Sl.below GfR.out rowE_loc hHeld (by omega)) (Sl.below HgR.out rowE_loc hHeld (by omega)) (by have := hHeld.size; omega) (by have := hHeld.size; omega) (by have := hHeld.size; omega) (by have := hHeld.size; omega) Hrsm.out _ (fun wq2 hB => ?_)
      refine ⟨_, rfl, hHeld.trans (hB.mono hHeld.size), ?_⟩
      have hHeld2 := hHeld.trans (hB.mono hHeld.size)
      clear hHeld
      have hHeld := hHeld2
      clear hHeld2
      clear hB
      try simp only [Act.put, List.getElem_toArray, List.getElem_cons_succ, List.getElem_cons_zero, List.setIfInBounds_toArray, List.set_cons_zero, List.set_cons_succ]
      refine wpAnyH_take (i := 8) (v := .bool true) rfl (by kernel_rfl) (by kernel_rfl) (by kernel_rfl) (fun _ _ _ h => h) (Or.inl ⟨by rfl, ?_⟩) hHeld ?_
      · intro w' hSw; go_simp
      try simp only [Act.put, List.getElem_toArray, List.getElem_cons_succ, List.getElem_cons_zero, List.setIfInBounds_toArray, List.set_cons_zero, List.set_cons_succ]
      refine wpAnyH_take (i := 9) (v := .bool true) rfl (by kernel_rfl) (by kernel_rfl) (by kernel_rfl) (fun _ _ _ h => h) (Or.inl ⟨by rfl, ?_⟩) hHeld ?_
      · intro w' hSw; go_simp
      try simp only [Act.put, List.getElem_toArray, List.getElem_cons_succ, List.getElem_cons_zero, List.setIfInBounds_toArray, List.set_cons_zero, List.set_cons_succ]
      refine wpAnyH_take (i := 10) (v := .agg #[.slice ayc rc.length cyc, .slice ayl l.length cyl]) rfl (by kernel_rfl) (by kernel_rfl) (by kernel_rfl) (fun _ _ _ h => h) (Or.inl ⟨by rfl, ?_⟩) hHeld ?_
      · intro w' hSw; have kc := (K9.out.below hSw h98).cells; have kx := kc.runVar (P := Tryz.prog) (t := 25) (fun _ => by kernel_rfl) (fun _ => by kernel_rfl); obtain ⟨z0, z1⟩ := kc.c2; simp only [Nat.zero_add] at z1; go_simp
      try simp only [Act.put, List.getElem_toArray, List.getElem_cons_succ, List.getElem_cons_zero, List.setIfInBounds_toArray, List.set_cons_zero, List.set_cons_succ]
      refine wpAnyH_take (i := 11) (v := .agg #[.slice ac rc.length cc, .slice av l.length av2]) rfl (by kernel_rfl) (by kernel_rfl) (by kernel_rfl) (fun _ _ _ h => h) (Or.inl ⟨by rfl, ?_⟩) hHeld ?_
      · intro w' hSw; have kc := (K3.out.below hSw h38).cells; have kx := kc.runVar (P := Tryz.prog) (t := 25) (fun _ => by kernel_rfl) (fun _ => by kernel_rfl); obtain ⟨z0, z1⟩ := kc.c2; simp only [Nat.zero_add] at z1; go_simp
      try simp only [Act.put, List.getElem_toArray, List.getElem_cons_succ, List.getElem_cons_zero, List.setIfInBounds_toArray, List.set_cons_zero, List.set_cons_succ]
      refine wpAnyH_ready (rs := [12]) (by kernel_rfl) (by simp) ?_
      refine allCall (f := 11) (args := #[.agg #[.slice ayc rc.length cyc, .slice ayl l.length cyl], .agg #[.slice ac rc.length cc, .slice av l.length av2]]) rfl (by kernel_rfl) (by kernel_rfl) ?_ AllReadyH.nil
      refine lawSame16_any _ _ _ _ _ _ _ _ rc l _ _ _ _ wq2 (Sl.below Gyc.out Strs.loc hHeld (by omega)) (Sl.below Grc.out Strs.loc hHeld (by omega)) (Sl.below Gyl.out rowE_loc hHeld (by omega)) (Sl.below Gl.out rowE_loc hHeld (by omega)) (by have := hHeld.size; omega) (by have := hHeld.size; omega) (by have := hHeld.size; omega) (by have := hHeld.size; omega) Hrs.out _ (fun wq3 hB => ?_)
      refine ⟨_, rfl, hHeld.trans (hB.mono hHeld.size), ?_⟩
      have hHeld2 := hHeld.trans (hB.mono hHeld.size)
      clear hHeld
      have hHeld := hHeld2
      clear hHeld2
      clear hB
      try simp only [Act.put, List.getElem_toArray, List.getElem_cons_succ, List.getElem_cons_zero, List.setIfInBounds_toArray, List.set_cons_zero, List.set_cons_succ]
      refine wpAnyH_take (i := 13) (v := .bool true) rfl (by kernel_rfl) (by kernel_rfl) (by kernel_rfl) (fun _ _ _ h => h) (Or.inl ⟨by rfl, ?_⟩) hHeld ?_
      · intro w' hSw; go_simp
      try simp only [Act.put, List.getElem_toArray, List.getElem_cons_succ, List.getElem_cons_zero, List.setIfInBounds_toArray, List.set_cons_zero, List.set_cons_succ]
      refine wpAnyH_take (i := 14) (v := .bool true) rfl (by kernel_rfl) (by kernel_rfl) (by kernel_rfl) (fun _ _ _ h => h) (Or.inl ⟨by rfl, ?_⟩) hHeld ?_
      · intro w' hSw; go_simp
      try simp only [Act.put, List.getElem_toArray, List.getElem_cons_succ, List.getElem_cons_zero, List.setIfInBounds_toArray, List.set_cons_zero, List.set_cons_succ]
      refine wpAnyH_done (by kernel_rfl) ?_ _
      have hHeld0 := hHeld
      clear hHeld
      have hr := HR.out wq3 (HBw8.out.trans (hHeld0.mono (by omega)))
      go_wp2_with fail
      first | exact hr | exact fin hr rfl
end Go.Proofs.YtmconajkgjfplaaGreat
end

/- FoldTells' walk, of a relation as an argument lays it. -/
section
set_option linter.unusedVariables false
set_option linter.unusedSimpArgs false
namespace Go.Proofs.YtmconajkgjfplaaGreat
open Go.RowKit
theorem FoldTells_rel (p : List S × List (List V)) (v : Value) (cols : List S) (cv : Value) (la : List Ag) (lav : Value) (w : World) (hp : RelIn w v p) (ho : relOkV p) (hcols : Strs 0 w.heap.size w cv cols) (hla : Ags 0 w.heap.size w lav la) (R : Ending → World → Prop)
    (hR : ∀ w', Below w.heap.size w w' → R (.returned (.bool true)) w') : Calls Tryz.prog 4 #[v, cv, lav] w R := by
  obtain ⟨ac, cc, lv, rfl, h1, h2⟩ := hp
  exact FoldTells_any 0 w.heap.size 0 w.heap.size 0 w.heap.size 0 w.heap.size p.1 ac cc p.2 lv cols cv la lav w h1 (Nat.le_refl _) h2 (Nat.le_refl _) hcols (Nat.le_refl _) hla (Nat.le_refl _) (fun x hx a ha => ho x hx a ha) R hR
end Go.Proofs.YtmconajkgjfplaaGreat
end

/- FoldTells holds outright: for any relation, columns and tellings the call returns true, and the arguments read behind it as before. No condition. -/
section
set_option linter.unusedVariables false
set_option linter.unusedSimpArgs false
namespace Go.Proofs.YtmconajkgjfplaaGreat.foldTells
open Go.ChangeShapes Go.WideShapes Go.ChangeAt Go.RowKit
open Go.ChangeMaps (open_string shut_string)
set_option linter.unusedVariables false

set_option maxRecDepth 100000 in
theorem contract (H : Type) (enc : TypeId × Value → H) (W : World) (base : Nat) (args : Array Value) (ds gs : List (DataW H)) (before : List MemPlace)
    (hval : ∀ (j : Nat) t v, Tryz.f4.params[j]? = some t → args[j]? = some v → Value.okWide Tryz.prog W .any base t v)
    (hW : DataW.Whole enc Tryz.prog Tryz.f4.params.toList Rows.foldTellsSpec.vars false W args.toList ds gs before) :
    Calls Tryz.prog 4 args W fun e W' => ∃ v, e = .returned v ∧ Rows.foldTellsSpec.post enc Tryz.prog Tryz.f4 false true false false W args v W' := by
  have hW' := hW
  obtain ⟨p, q, hA0, hV, rfl, hfz, hnd⟩ := hW
  have hA : DataW.TrodAll enc Tryz.prog W 0 (fun _ => true) true Tryz.f4.params.toList args.toList ds p := hA0
  rw [Tryz.params4] at hA hval
  have hAk := hA
  obtain ⟨v0, vs0, d0, ds0, p0, q0, hargs, rfl, rfl, h0, r0⟩ := trodAll_cons hA
  obtain ⟨v1, vs1, d1, ds1, p1, q1, rfl, rfl, rfl, h1, r1⟩ := trodAll_cons r0
  obtain ⟨v2, vs2, d2, ds2, p2, q2, rfl, rfl, rfl, h2, r2⟩ := trodAll_cons r1
  obtain ⟨rfl, rfl, rfl⟩ := trodAll_nil r2
  obtain rfl : args = #[v0, v1, v2] := by cases args; simp_all
  obtain ⟨rfl, rfl⟩ := trodVars_none hV
  obtain ⟨x0, s0, o0⟩ := open_relV (hval 0 25 v0 rfl rfl) h0
  obtain ⟨a1, len1, cap1, rfl⟩ := okWide_slice Tryz.underlying22 (hval 1 22 v1 rfl rfl)
  obtain ⟨n1, h1⟩ := h1
  obtain ⟨x1, s1, o1⟩ := open_sl (α := S) (E := flat strE) (ok := colOk) Tryz.underlying22 (size := 1) (by kernel_rfl) (by decide) el_col (by simpa [Value.cells] using h1)
  obtain ⟨a2, len2, cap2, rfl⟩ := okWide_slice Tryz.underlying42 (hval 2 42 v2 rfl rfl)
  obtain ⟨n2, h2⟩ := h2
  obtain ⟨x2, s2, o2⟩ := open_sl (α := Ag) (E := flat Ag.enc) (ok := agOk) Tryz.underlying42 (size := 3) (by kernel_rfl) (by decide) el_ag (by simpa [Value.cells] using h2)
  clear hA0
  refine FoldTells_rel x0 _ x1 _ x2 _ W s0 o0 s1 s2 _ fun W' bel => ?_
  exact ⟨_, rfl, _, _, _, [], _, [], hW', trodAll_mk1 (shut_bool Tryz.underlying4 _), trodAll_below laidOut bel _ _ _ _ (by kernel_rfl) hAk, rfl, bel.frame _, fun h => by cases h⟩

set_option maxRecDepth 100000 in
theorem lifted (os : Os) (started : os.Started) (H : Type) (enc : TypeId × Value → H) :
    ReturnsInHanded {} Tryz.checked os 4 .any (Rows.foldTellsSpec.pre6 enc Tryz.prog Tryz.f4 Rows.foldTellsRow.domain false) (Rows.foldTellsSpec.post enc Tryz.prog Tryz.f4 false true false false) := by
  refine returnsInHanded_of_change (C := Tryz.checked) own started (by kernel_rfl) Tryz.func4
    (ChangeSpec.witness6 (enc := enc) (C := Tryz.checked) false ⟨#[], #[.agg #[.slice none 0 0, .slice none 0 0], .slice none 0 0, .slice none 0 0], []⟩ 8 (by kernel_rfl) (by kernel_rfl) (by kernel_rfl) (by kernel_rfl)) ?_
  intro W base args ds gs before hval hW _ _
  exact contract H enc W base args ds gs before hval hW

theorem over : Rows.foldTellsRow.holds Tryz.pinned (OpenSpec.ofChange Rows.foldTellsSpec) :=
  OpenClaim.holds_of_wide 4 Tryz.f4 rfl rfl rfl rfl rfl rfl rfl ⟨rfl, rfl, rfl, rfl, rfl⟩ rfl rfl rfl rfl rfl (by kernel_rfl) Tryz.func4 (by kernel_rfl)
    (of_decide_eq_true (by kernel_rfl)) (by unfold Func.isWrapper; first | (rw [if_pos (by decide +kernel)]; kernel_rfl) | (rw [if_neg (by decide +kernel)]; exact ⟨rfl, rfl⟩))
    (fun os started H enc _ => lifted os started H enc)

theorem proved : Rows.FoldTellsSaid := over
end Go.Proofs.YtmconajkgjfplaaGreat.foldTells
end
