/- RowsMeets holds outright: for any two relations the call returns true, and the arguments read behind it as before. No condition. -/
import Derived.Test.YtpncblagjkbemaaKMeets5
/- The law RowsPicks, walked. (Printed by rowp.py.) -/
section
namespace Go.Proofs.Ytpncblagjkbemaa
open Go.RowKit
set_option linter.unusedVariables false
set_option linter.unusedSimpArgs false
attribute [local go_sem ↓] Go.wp_at_zero Go.wp_at_succ

/-- A block of relations is written: what is a call's own stays. -/
theorem own2Set {lo : Nat} {w : World} {ca la : Value} {hs : List Value} {cols : List S} {l : List (List V)} (hT : OwnT lo w ca cols) (hR : OwnR lo w la hs l) {b : Nat} {x0 x1 : Value} {t : TypeId} (hb : Blk w b [x0, x1] t) (h1 : t ≠ 9) (h2 : t ≠ 42) (h3 : t ≠ 24) (u0 u1 : Value) :
    OwnT lo ((w.setCell ⟨b, 0, none⟩ u0).setCell ⟨b, 1, none⟩ u1) ca cols ∧ OwnR lo ((w.setCell ⟨b, 0, none⟩ u0).setCell ⟨b, 1, none⟩ u1) la hs l ∧ Blk ((w.setCell ⟨b, 0, none⟩ u0).setCell ⟨b, 1, none⟩ u1) b [u0, u1] t :=
  ⟨Own.setOther (Own.setOther hT (p := ⟨b, 0, none⟩) (Own.ne_blk hT hb h1) _) (p := ⟨b, 1, none⟩) (Own.ne_blk hT hb h1) _, (hR.setBlk hb h2 h3 0 _).setBlk (hb.set 0 _) h2 h3 1 _, (hb.set 0 u0).set 1 u1⟩
theorem agree2Set {lo hi : Nat} (w : World) {b : Nat} (h : b < lo ∨ hi ≤ b) (u0 u1 : Value) : Agree lo hi w ((w.setCell ⟨b, 0, none⟩ u0).setCell ⟨b, 1, none⟩ u1) :=
  (Agree.setCell w (p := ⟨b, 0, none⟩) h _).trans (Agree.setCell _ (p := ⟨b, 1, none⟩) h _)
theorem below2Set {B : Nat} (w : World) {b : Nat} (h : B ≤ b) (u0 u1 : Value) : Below B w ((w.setCell ⟨b, 0, none⟩ u0).setCell ⟨b, 1, none⟩ u1) :=
  ((Below.refl B w).setCell (p := ⟨b, 0, none⟩) h _).setCell (p := ⟨b, 1, none⟩) h _
theorem blk2Set {w : World} {b g : Nat} {cs : List Value} {t : TypeId} (hb : Blk w g cs t) (h : g ≠ b) (u0 u1 : Value) : Blk ((w.setCell ⟨b, 0, none⟩ u0).setCell ⟨b, 1, none⟩ u1) g cs t :=
  (hb.other (p := ⟨b, 0, none⟩) h _).other (p := ⟨b, 1, none⟩) h _
theorem size2Set (w : World) (b : Nat) (u0 u1 : Value) : w.heap.size ≤ ((w.setCell ⟨b, 0, none⟩ u0).setCell ⟨b, 1, none⟩ u1).heap.size := Nat.le_of_eq (by simp)
theorem keepL_mem {keep : Nat → Bool} {l : List (List V)} {x : List V} (h : x ∈ keepL keep l) : x ∈ l := by
  unfold keepL at h
  obtain ⟨i, hi, rfl⟩ := List.mem_map.1 h
  have := List.mem_range.1 (List.mem_filter.1 hi).1
  rw [getDS l _ i this]
  exact List.getElem_mem this
/-- Rows of which the headers are a call's own, and the values lie in some blocks ahead of these. -/
def LS (lo a b : Nat) (w : World) (v : Value) (xs : List (List V)) : Prop :=
  ∃ hs : List HD, hs.length = xs.length ∧ OwnHD lo w v hs ∧ ∀ i (h1 : i < hs.length) (h2 : i < xs.length), Row1 a b w hs[i].v xs[i]
theorem LS.nil (lo a b : Nat) (w : World) : LS lo a b w (.slice none 0 0) [] := ⟨[], rfl, Own.nil _ _ _ _ _, fun i h => absurd h (Nat.not_lt_zero _)⟩
theorem LS.slice {lo a b : Nat} {w : World} {v : Value} {xs : List (List V)} (h : LS lo a b w v xs) : ∃ p c, v = .slice p xs.length c := by
  obtain ⟨hs, hl, ho, -⟩ := h
  obtain ⟨p, c, e⟩ := Own.slice ho
  exact ⟨p, c, by rw [e, hl]⟩
theorem LS.lt {lo a b : Nat} {w : World} {v : Value} {xs : List (List V)} (h : LS lo a b w v xs) : ∀ k, v.ownBlock = some k → lo ≤ k ∧ k < w.heap.size := by
  obtain ⟨hs, hl, ho, hr⟩ := h
  exact Own.lt ho
theorem LS.rws {lo a b : Nat} {w : World} {v : Value} {xs : List (List V)} (h : LS lo a b w v xs) (hb : b ≤ w.heap.size) : Rws 0 w.heap.size w v xs := by
  obtain ⟨hs, hl, ho, hr⟩ := h
  have hsl : Sl (flat HD.enc) 1 lo w.heap.size w v hs := Sl.ofOwn (fun _ => rfl) ho
  obtain ⟨ao, cap, hv, hle, hcm, hn, hc⟩ := hsl.form
  refine ⟨ao, cap, by rw [hv, hl], by rw [← hl]; exact hle, by simpa [maxLen] using hcm, hn, fun hne => ?_⟩
  have h0 : 0 < hs.length := by
    rw [hl]
    cases xs with
    | nil => exact absurd rfl hne
    | cons a r => simp
  obtain ⟨b', off, rfl, hb1, hb2, hcc⟩ := hc 0 h0
  refine ⟨b', off, rfl, Nat.zero_le _, hb2, fun k hk => ?_⟩
  have hk' : k < hs.length := by rw [hl]; exact hk
  obtain ⟨cs, hcl, hcs, rfl⟩ := hcc k hk'
  exact ⟨_, hcl, hcs, hs[k].v, rfl, (hr k hk' hk).mono Row1.loc (Nat.zero_le _) hb⟩
theorem LS.same {lo a b : Nat} {w w' : World} {v : Value} {xs : List (List V)} (h : LS lo a b w v xs) (hv : ∀ g, v.ownBlock = some g → w'.heap[g]? = w.heap[g]?) (ha : Agree a b w w') : LS lo a b w' v xs := by
  obtain ⟨hs, hl, ho, hr⟩ := h
  exact ⟨hs, hl, Own.same ho hv, fun i h1 h2 => (hr i h1 h2).agree Row1.loc ha⟩
theorem LS.snoc {lo a b : Nat} {w : World} {v : Value} {xs : List (List V)} (h : LS lo a b w v xs) (hbl : b ≤ lo) (pa : Option Addr) (pc : Nat) (x : List V) (hx : Row1 a b w (.slice pa x.length pc) x) {n : Nat} (hn : n = w.heap.size) (hb : xs.length ≤ 4000000000000) (hlo : lo ≤ w.heap.size) :
    ∃ v' w', (Builtin.append_ #[32, 32] 32 #[v, .slice (some ⟨n, 0, none⟩) 1 1]).run Try.prog (w.alloc (.cells #[.slice pa x.length pc] 42)) = .ok v' w' ∧ LS lo a b w' v' (xs ++ [x]) ∧ Appended w v w' v' := by
  subst hn
  obtain ⟨hs, hl, ho, hr⟩ := h
  have hB := alloc_below w (.cells (HD.enc ⟨pa, x.length, pc⟩).toArray 42)
  obtain ⟨i0, hi, hz0, hz1, hz2⟩ := info_parts infoHD
  have hc := CellsAt.newAt w (HD.enc ⟨pa, x.length, pc⟩) 42 rfl
  have hsr : Src Try.prog 1 32 (.slice (some ⟨w.heap.size, 0, none⟩) 1 1) [(⟨pa, x.length, pc⟩ : HD)].length ([(⟨pa, x.length, pc⟩ : HD)].flatMap HD.enc) (w.alloc (.cells (HD.enc ⟨pa, x.length, pc⟩).toArray 42)) :=
    Src.ofSlice _ Try.underlying32 _ _ _ _ (by simp [HD.enc]) (fun j u hu => by rw [Addr.add_lit]; exact hc j u (by simpa using hu)) (fun u hu => by
      rw [List.flatMap_cons, List.flatMap_nil, List.append_nil] at hu
      exact HD.one _ u hu)
  obtain ⟨v', w', hrun, ho', hap⟩ := (Own.kept ho hB).app _ _ _ i0 _ 24 Try.underlying32 hi hz0 hz1 hz2 rfl hsr (by simp only [List.length_cons, List.length_nil]; omega) (by omega) (Nat.le_trans hlo hB.size)
  have hapw := (Appended.step v hB).trans hap
  have hag : Agree a b w w' := hapw.agree (by omega) (fun k e => .inr (by have := (Own.lt ho k e).1; omega))
  refine ⟨v', w', hrun, ⟨hs ++ [⟨pa, x.length, pc⟩], by simp [hl], ho', fun i h1 h2 => ?_⟩, hapw⟩
  by_cases hi2 : i < hs.length
  · rw [List.getElem_append_left hi2, List.getElem_append_left (by omega)]
    exact (hr i hi2 (by omega)).agree Row1.loc hag
  · have e1 : i = hs.length := by rw [List.length_append, List.length_singleton] at h1; omega
    subst e1
    rw [List.getElem_append_right (Nat.le_refl _), List.getElem_append_right (by omega)]
    simp only [hl, Nat.sub_self, List.getElem_cons_zero]
    exact hx.agree Row1.loc hag
/-- Rows of a relation that may be make one, however few. -/
theorem of_made {rc : List S} {l xs : List (List V)} (h : mayRel rc l = true) (hs : ∀ x ∈ xs, x ∈ l) : ofErr rc xs = madeErr rc xs := by
  have h1 : fitB rc xs = true := by
    unfold fitB
    have h0 : onceB rc = true := by
      unfold mayRel at h
      simp only [Bool.and_eq_true] at h
      exact h.1.1
    rw [h0, Bool.true_and, Bool.not_eq_true', List.any_eq_false]
    intro x hx
    have := may_len h x (hs x hx)
    simp [this]
  have h2 := (may_many h).2
  unfold ofErr madeErr
  rw [if_pos h1]
  by_cases h3 : 100000 < (relCanon xs).length
  · rw [if_pos h3, if_pos (.inr h3)]
  · rw [if_neg h3, if_neg (by omega)]
set_option maxRecDepth 100000 in
set_option maxHeartbeats 8000000 in
theorem RowsPicks_any (lo hi lc hc l3 h3 l4 h4 : Nat) (rc : List S) (ac : Option Addr) (cc : Nat) (l : List (List V)) (lv : Value) (cols : List S) (cv : Value) (x : List V) (xv : Value) (w : World) (hrc : Strs lc hc w (.slice ac rc.length cc) rc) (hhc : hc ≤ w.heap.size) (hv : Rws lo hi w lv l) (hhi : hi ≤ w.heap.size) (hcols : Strs l3 h3 w cv cols) (hh3 : h3 ≤ w.heap.size) (hx : Row1 l4 h4 w xv x) (hh4 : h4 ≤ w.heap.size)
    (hrs : ∀ x ∈ l, ∀ a ∈ x, a.s.length ≤ 9223372036854775807) (hxs : ∀ a ∈ x, a.s.length ≤ 9223372036854775807) (R : Ending → World → Prop)
    (hR : ∀ w', Below w.heap.size w w' → R (.returned (.bool true)) w') : Calls Try.prog 6 #[.agg #[.slice ac rc.length cc, lv], cv, xv] w R := by
  have HR := Lib.hid hR
  have Hl0 := Lib.hid hv
  have Hrc0 := Lib.hid hrc
  have Hc0 := Lib.hid hcols
  have Hx0 := Lib.hid hx
  have Hrs := Lib.hid hrs
  have Hxs := Lib.hid hxs
  obtain ⟨av, cv2, rfl, -, -, -, -⟩ := hv.form
  obtain ⟨ak, ck, rfl, -, -, -, -⟩ := hcols.form
  obtain ⟨ax, cx, rfl, -, -, -, -⟩ := hx.form
  have hxl63 := hx.len
  clear hR hv hrc hcols hx hrs hxs
  go_enter Try.func6, Try.ntmps6
  go_upto_region 1 with fail
  have hBa := alloc_below w (.cells #[.slice ac rc.length cc, .slice av l.length cv2] 34)
  have hba := Blk.new w [.slice ac rc.length cc, .slice av l.length cv2] 34 rfl
  generalize w.alloc (.cells #[.slice ac rc.length cc, .slice av l.length cv2] 34) = wa at *
  have HBa := Lib.hid hBa
  have Hba := Lib.hid hba
  have hza := hBa.size
  have hla := hba.lt
  obtain ⟨c0, c1⟩ := hba.cells.c2
  simp only [Nat.zero_add] at c1
  clear hBa hba
  go_wp2_with fail
  refine great_any lo hi rc ac cc l _ wa (Sl.below Hl0.out rowE_loc HBa.out hhi) _ ?_
  cases hg : greatB rc l
  case true =>
    have hr := HR.out wa HBa.out
    clear hg
    go_wp2_with fail
    first | exact hr | exact fin hr rfl
  obtain ⟨hcl, hll, hxl⟩ := great_no hg
  have Hxl := Lib.hid hxl
  clear hg hxl
  go_wp2_with fail
  refine great_any 0 0 cols ak ck [] _ wa (Sl.nil _ _ _ _ _) _ ?_
  cases hg : greatB cols []
  case true =>
    have hr := HR.out wa HBa.out
    clear hg
    go_wp2_with fail
    first | exact hr | exact fin hr rfl
  have hkl := (great_no hg).1
  clear hg
  by_cases hx60 : 60 < x.length
  case pos =>
    have hr := HR.out wa HBa.out
    have g1 : (60 : Int) < (x.length : Int) := by omega
    go_wp2_with fail
    first | exact hr | exact fin hr rfl
  have g1 : ¬ (60 : Int) < (x.length : Int) := by omega
  go_wp2_with fail
  refine lawOwn_any lo hi lc hc rc ac cc l _ wa (Sl.below Hrc0.out Strs.loc HBa.out hhc) (by omega) (Sl.below Hl0.out rowE_loc HBa.out hhi) (by omega) (by omega) (by omega) (fun x hx => by have := Hxl.out x hx; omega) _ (fun w1 ycv ylv hB1 hyc hyl => ?_)
  have HB1 := Lib.hid hB1
  have Hyc1 := Lib.hid hyc
  have Hyl1 := Lib.hid hyl
  have hz1 := hB1.size
  obtain ⟨ayc, cyc, rfl, -, -, -, -⟩ := hyc.form
  obtain ⟨ayl, cyl, rfl, -, -, -, -⟩ := hyl.form
  clear hB1 hyc hyl c0 c1
  go_upto_region 4 with fail
  have hBa := alloc_below w1 (.cells #[.slice ayc rc.length cyc, .slice ayl l.length cyl] 34)
  have hba := Blk.new w1 [.slice ayc rc.length cyc, .slice ayl l.length cyl] 34 rfl
  generalize w1.alloc (.cells #[.slice ayc rc.length cyc, .slice ayl l.length cyl] 34) = w2 at *
  have HB12 := Lib.hid hBa
  have Hby := Lib.hid hba
  have hz2 := hBa.size
  have hby := hba.lt
  have HBw2 := Lib.hid (HBa.out.trans ((HB1.out.mono hza).trans (hBa.mono (by omega))))
  have Hbr := Lib.hid (Hba.out.below (HB1.out.trans (hBa.mono hz1)) hla)
  have Hyc := Lib.hid (Sl.below Hyc1.out Strs.loc hBa (Nat.le_refl _))
  have Hyl := Lib.hid (Sl.below Hyl1.out rowE_loc hBa (Nat.le_refl _))
  have Hrc := Lib.hid (Sl.below Hrc0.out Strs.loc HBw2.out hhc)
  have Hl := Lib.hid (Sl.below Hl0.out rowE_loc HBw2.out hhi)
  have Hc := Lib.hid (Sl.below Hc0.out Strs.loc HBw2.out hh3)
  have Hx := Lib.hid (Sl.below Hx0.out Row1.loc HBw2.out hh4)
  clear hBa hba Hyc1 Hyl1 Hrc0 Hl0 Hc0 Hx0 HB12 HB1 Hba HBa
  have hr2 : w.heap.size < w2.heap.size := by omega
  have HA2 : Hid (Below w2.heap.size w2 w2) := Lib.hid (Below.refl _ _)
  obtain ⟨c0, c1⟩ := Hby.out.cells.c2
  simp only [Nat.zero_add] at c1
  go_wp2_with fail
  obtain ⟨oc1, hoc1⟩ : ∃ oc, okL (projErr rc l cols) cols = oc := ⟨_, rfl⟩
  obtain ⟨ol1, hol1⟩ : ∃ ol, okL (projErr rc l cols) (relCanon (l.map fun x => pickL x (placesL cols rc))) = ol := ⟨_, rfl⟩
  have Hos1 : Hid (∀ x ∈ ol1, ∀ a ∈ x, a.s.length ≤ 9223372036854775807) := Lib.hid (fun x hx => by
    have h1 := relCanon_mem (okL_mem (by rw [hol1]; exact hx))
    obtain ⟨y, hy, rfl⟩ := List.mem_map.1 h1
    exact pick_str (Hrs.out y hy))
  refine Project_any wa.heap.size w1.heap.size wa.heap.size w1.heap.size l3 h3 rc _ _ l _ cols _ w2 Hyc.out (by omega) Hyl.out (by omega) Hc.out (by omega) (by omega) (by omega) _ (fun w3 cv3 lv3 hs3 hB3 hT3 hR3 => ?_)
  rw [hoc1] at hT3
  rw [hol1] at hR3
  obtain ⟨p3, q3, rfl⟩ := Own.slice hT3
  obtain ⟨p4, q4, e4⟩ := Own.slice hR3.own
  rw [hR3.len] at e4
  subst e4
  have HA3 := Lib.hid hB3
  have HT3 := Lib.hid hT3
  have HR3 := Lib.hid hR3
  have hz3 := hB3.size
  clear hB3 hT3 hR3 c0 c1
  go_upto_region 5 with fail
  have hBa := alloc_below w3 (.cells #[.slice p3 oc1.length q3, .slice p4 ol1.length q4] 34)
  have hba := Blk.new w3 [.slice p3 oc1.length q3, .slice p4 ol1.length q4] 34 rfl
  generalize w3.alloc (.cells #[.slice p3 oc1.length q3, .slice p4 ol1.length q4] 34) = w4 at *
  have HB3_4 := Lib.hid hBa
  have Hb8_4 := Lib.hid hba
  have hz4 := hBa.size
  have hlb8 := hba.lt
  have HA4 := Lib.hid (HA3.out.trans (hBa.mono (by omega)))
  clear hBa hba
  obtain ⟨c0, c1⟩ := (Hbr.out.below HA4.out (by omega)).cells.c2
  simp only [Nat.zero_add] at c1
  go_wp2_with fail
  refine ref_any _ _ _ _ _ _ w4 _ (fun w5 hB5 => ?_)
  have HB45 := Lib.hid hB5
  have hz5 := hB5.size
  have HA5 := Lib.hid (HA4.out.trans (hB5.mono (by omega)))
  clear hB5 c0 c1
  go_wp2_with fail
  refine refProject_any lo hi lc hc l3 h3 rc _ _ l _ cols _ w5 (Sl.below Hrc.out Strs.loc HA5.out (by omega)) (by omega) (Sl.below Hl.out rowE_loc HA5.out (by omega)) (by omega) (Sl.below Hc.out Strs.loc HA5.out (by omega)) (by omega) (by omega) (by omega) Hrs.out _ (fun w6 cv6 lv6 hB6 hT6 hR6 => ?_)
  rw [hoc1] at hT6
  rw [hol1] at hR6
  obtain ⟨p5, q5, rfl, -, -, -, -⟩ := hT6.form
  obtain ⟨p6, q6, rfl, -, -, -, -⟩ := hR6.form
  have HB56 := Lib.hid hB6
  have hz6 := hB6.size
  have HA6 := Lib.hid (HA5.out.trans (hB6.mono (by omega)))
  have HT6 := Lib.hid hT6
  have HR6 := Lib.hid hR6
  clear hB6 hT6 hR6
  go_upto_region 6 with fail
  have hBa := alloc_below w6 (.cells #[.slice p5 oc1.length q5, .slice p6 ol1.length q6] 53)
  have hba := Blk.new w6 [.slice p5 oc1.length q5, .slice p6 ol1.length q6] 53 rfl
  generalize w6.alloc (.cells #[.slice p5 oc1.length q5, .slice p6 ol1.length q6] 53) = w7 at *
  have HB6_7 := Lib.hid hBa
  have Hb10_7 := Lib.hid hba
  have hz7 := hBa.size
  have hlb10 := hba.lt
  have HA7 := Lib.hid (HA6.out.trans (hBa.mono (by omega)))
  clear hBa hba
  have HB47 := Lib.hid ((HB45.out.trans (HB56.out.mono (by omega))).trans (HB6_7.out.mono (by omega)))
  have HB37 := Lib.hid (HB3_4.out.trans (HB47.out.mono (by omega)))
  have Hb8_7 := Lib.hid (Hb8_4.out.below HB47.out hlb8)
  obtain ⟨c0, c1⟩ := (Hb8_7.out).cells.c2
  simp only [Nat.zero_add] at c1
  obtain ⟨d0, d1⟩ := (Hb10_7.out).cells.c2
  simp only [Nat.zero_add] at d1
  go_wp2_with fail
  have hT7 := Own.kept HT3.out HB37.out
  have hR7 := OwnR.kept HR3.out HB37.out
  refine toldO_any w2.heap.size w5.heap.size w6.heap.size l3 h3 oc1 ol1 hs3 _ _ _ _ _ w7 (by omega) hT7 (Sl.below HT6.out Strs.loc HB6_7.out (by omega)) hR7 (Sl.below HR6.out rowE_loc HB6_7.out (Nat.le_refl _)) (by omega) (by omega) Hos1.out _ (fun w8 hB8 hO8 => ?_)
  have Hb8_8 := Lib.hid (hO8.blk Hb8_7.out (TB.not hT7 hR7 Hb8_7.out (by decide) (by decide)))
  have Hb10_8 := Lib.hid (hO8.blk Hb10_7.out (TB.not hT7 hR7 Hb10_7.out (by decide) (by decide)))
  have HA8 := Lib.hid (HA7.out.trans hB8)
  have hz8 := hB8.size
  clear hB8 hO8 hT7 hR7 c0 c1 d0 d1 HB45 HB56 HB6_7 HB47 HB37 HB3_4 Hb8_4 Hb8_7 Hb10_7 HT3 HR3 HT6 HR6 HA3 HA4 HA5 HA6 HA7 hoc1 hol1 Hos1
  have hlb8 : w3.heap.size < w8.heap.size := by omega
  have hlb10 : w6.heap.size < w8.heap.size := by omega
  obtain ⟨b8, eb8⟩ : ∃ b, b = w3.heap.size := ⟨_, rfl⟩
  obtain ⟨b10, eb10⟩ : ∃ b, b = w6.heap.size := ⟨_, rfl⟩
  have h2b8 : w2.heap.size ≤ b8 := by omega
  have h2b10 : w2.heap.size ≤ b10 := by omega
  have hb810 : b8 < b10 := by omega
  rw [← eb8] at Hb8_8 hlb8
  rw [← eb10] at Hb10_8 hlb10
  rw [← eb8, ← eb10]
  clear eb8 eb10
  obtain ⟨c0, c1⟩ := (Hby.out.below HA8.out hby).cells.c2
  simp only [Nat.zero_add] at c1
  go_wp2_with fail
  obtain ⟨oc2, hoc2⟩ : ∃ oc, okL (renErr rc l cols) cols = oc := ⟨_, rfl⟩
  obtain ⟨ol2, hol2⟩ : ∃ ol, okL (renErr rc l cols) (relCanon l) = ol := ⟨_, rfl⟩
  have Hos2 : Hid (∀ x ∈ ol2, ∀ a ∈ x, a.s.length ≤ 9223372036854775807) := Lib.hid (fun x hx => by
    have h1 := relCanon_mem (okL_mem (by rw [hol2]; exact hx))
    exact Hrs.out x h1)
  refine Rename_any wa.heap.size w1.heap.size wa.heap.size w1.heap.size l3 h3 rc _ _ l _ cols _ w8 (Sl.below Hyc.out Strs.loc HA8.out (by omega)) (by omega) (Sl.below Hyl.out rowE_loc HA8.out (by omega)) (by omega) (Sl.below Hc.out Strs.loc HA8.out (by omega)) (by omega) (by omega) _ (fun w9 cv3 lv3 hs3 hB3 hT3 hR3 => ?_)
  rw [hoc2] at hT3
  rw [hol2] at hR3
  have hA3 := HA8.out.trans (hB3.mono (by omega))
  have hb8 := Hb8_8.out.below hB3 hlb8
  have hb10 := Hb10_8.out.below hB3 hlb10
  have hz89 := hB3.size
  clear hB3 c0 c1 Hb8_8 Hb10_8
  obtain ⟨p3, q3, rfl⟩ := Own.slice hT3
  obtain ⟨p4, q4, e4⟩ := Own.slice hR3.own
  rw [hR3.len] at e4
  subst e4
  have HA9 := Lib.hid hA3
  have hz9 := hA3.size
  have HT3 := Lib.hid hT3
  have HR3 := Lib.hid hR3
  have Hb8_9 := Lib.hid hb8
  have Hb10_9 := Lib.hid hb10
  have f0 := hb8.free 0
  have f1 := hb8.free 1
  obtain ⟨c0, c1⟩ := (hb8).cells.c2
  simp only [Nat.zero_add] at c1
  clear hA3 hT3 hR3 hb8 hb10
  go_upto_region 9 with fail
  have hown := own2Set HT3.out HR3.out Hb8_9.out (by decide) (by decide) (by decide) (.slice p3 oc2.length q3) (.slice p4 ol2.length q4)
  have hb10' := blk2Set Hb10_9.out (show b10 ≠ b8 by omega) (.slice p3 oc2.length q3) (.slice p4 ol2.length q4)
  have hA' := HA9.out.trans (below2Set w9 h2b8 (.slice p3 oc2.length q3) (.slice p4 ol2.length q4))
  have hzz := size2Set w9 b8 (.slice p3 oc2.length q3) (.slice p4 ol2.length q4)
  clear c0 c1 f0 f1 HT3 HR3 Hb8_9 Hb10_9
  generalize (w9.setCell ⟨b8, 0, none⟩ (.slice p3 oc2.length q3)).setCell ⟨b8, 1, none⟩ (.slice p4 ol2.length q4) = w10 at *
  obtain ⟨hT2, hR2, hb82⟩ := hown
  have HT10 := Lib.hid hT2
  have HR10 := Lib.hid hR2
  have Hb8_10 := Lib.hid hb82
  have Hb10_10 := Lib.hid hb10'
  have HA10 := Lib.hid hA'
  have hz10 := hA'.size
  clear hT2 hR2 hb82 hb10' hA'
  obtain ⟨c0, c1⟩ := (Hbr.out.below HA10.out (by omega)).cells.c2
  simp only [Nat.zero_add] at c1
  go_wp2_with fail
  refine ref_any _ _ _ _ _ _ w10 _ (fun w11 hB => ?_)
  have HB10_11 := Lib.hid hB
  have hz11 := hB.size
  have HA11 := Lib.hid (HA10.out.trans (hB.mono (by omega)))
  clear hB c0 c1
  go_wp2_with fail
  refine refRename_any lo hi lc hc l3 h3 rc _ _ l _ cols _ w11 (Sl.below Hrc.out Strs.loc HA11.out (by omega)) (by omega) (Sl.below Hl.out rowE_loc HA11.out (by omega)) (by omega) (Sl.below Hc.out Strs.loc HA11.out (by omega)) (by omega) (by omega) Hrs.out _ (fun w12 cv6 lv6 hB6 hT6 hR6 => ?_)
  rw [hoc2] at hT6
  rw [hol2] at hR6
  obtain ⟨p5, q5, rfl, -, -, -, -⟩ := hT6.form
  obtain ⟨p6, q6, rfl, -, -, -, -⟩ := hR6.form
  have HB11_12 := Lib.hid hB6
  have hz12 := hB6.size
  have HA12 := Lib.hid (HA11.out.trans (hB6.mono (by omega)))
  have hB24 := HB10_11.out.trans (hB6.mono (by omega))
  have HT4 := Lib.hid (Own.kept HT10.out hB24)
  have HR4 := Lib.hid (OwnR.kept HR10.out hB24)
  have Hb8_12 := Lib.hid (Hb8_10.out.below hB24 Hb8_10.out.lt)
  have Hb10_12 := Lib.hid (Hb10_10.out.below hB24 Hb10_10.out.lt)
  have HT6 := Lib.hid hT6
  have HR6 := Lib.hid hR6
  have hb10l := Hb10_10.out.lt
  have f0 := Hb10_12.out.free 0
  have f1 := Hb10_12.out.free 1
  obtain ⟨c0, c1⟩ := (Hb10_12.out).cells.c2
  simp only [Nat.zero_add] at c1
  clear hB6 hT6 hR6 hB24
  go_upto_region 10 with fail
  have hown := own2Set HT4.out HR4.out Hb10_12.out (by decide) (by decide) (by decide) (.slice p5 oc2.length q5) (.slice p6 ol2.length q6)
  have hb8' := blk2Set Hb8_12.out (show b8 ≠ b10 by omega) (.slice p5 oc2.length q5) (.slice p6 ol2.length q6)
  have hA' := HA12.out.trans (below2Set w12 h2b10 (.slice p5 oc2.length q5) (.slice p6 ol2.length q6))
  have hTb := Sl.agree HT6.out Strs.loc (agree2Set w12 (b := b10) (.inr (by omega)) (.slice p5 oc2.length q5) (.slice p6 ol2.length q6))
  have hRb := Sl.agree HR6.out rowE_loc (agree2Set w12 (b := b10) (.inl (by omega)) (.slice p5 oc2.length q5) (.slice p6 ol2.length q6))
  have hzz := size2Set w12 b10 (.slice p5 oc2.length q5) (.slice p6 ol2.length q6)
  clear c0 c1 f0 f1 HT4 HR4 HT6 HR6 Hb8_12 Hb10_12
  generalize (w12.setCell ⟨b10, 0, none⟩ (.slice p5 oc2.length q5)).setCell ⟨b10, 1, none⟩ (.slice p6 ol2.length q6) = w13 at *
  obtain ⟨hT5, hR5, hb105⟩ := hown
  have HT5 := Lib.hid hT5
  have HR5 := Lib.hid hR5
  have HTb := Lib.hid hTb
  have HRb := Lib.hid hRb
  have Hb8_13 := Lib.hid hb8'
  have Hb10_13 := Lib.hid hb105
  have HA13 := Lib.hid hA'
  have hz13 := hA'.size
  clear hT5 hR5 hb105 hb8' hA' hTb hRb
  obtain ⟨c0, c1⟩ := (Hb8_13.out).cells.c2
  simp only [Nat.zero_add] at c1
  obtain ⟨d0, d1⟩ := (Hb10_13.out).cells.c2
  simp only [Nat.zero_add] at d1
  go_wp2_with fail
  refine toldO_any w2.heap.size w11.heap.size w12.heap.size l3 h3 oc2 ol2 _ _ _ _ _ _ w13 (by omega) (Own.lower HT5.out (by omega)) HTb.out (OwnR.lower HR5.out (by omega)) HRb.out (by omega) (by omega) Hos2.out _ (fun w14 hB8 hO8 => ?_)
  have Hb8_14 := Lib.hid (hO8.blk Hb8_13.out (TB.not HT5.out HR5.out Hb8_13.out (by decide) (by decide)))
  have Hb10_14 := Lib.hid (hO8.blk Hb10_13.out (TB.not HT5.out HR5.out Hb10_13.out (by decide) (by decide)))
  have HA14 := Lib.hid (HA13.out.trans hB8)
  have hz14 := HA14.out.size
  clear hB8 hO8 c0 c1 d0 d1 HT5 HR5 HTb HRb Hb8_13 Hb10_13 HA9 HA10 HA11 HA12 HA13 hoc2 hol2 Hos2 HB10_11 HB11_12 HT10 HR10 Hb8_10 Hb10_10 hzz
  go_upto_region 14 with fail
  obtain ⟨wq, ewq⟩ : ∃ x, x = w14.alloc (.cells #[.int .i64 0] 3) := ⟨_, rfl⟩
  obtain ⟨w16, ew16⟩ : ∃ x, x = wq.alloc (.cells #[.bool true] 4) := ⟨_, rfl⟩
  have sq : wq.heap.size = w14.heap.size + 1 := by rw [ewq]; simp
  have hBq : Below w14.heap.size w14 wq := by rw [ewq]; exact alloc_below _ _
  have hB16 : Below wq.heap.size wq w16 := by rw [ew16]; exact alloc_below _ _
  have hba : Blk wq w14.heap.size [.int .i64 0] 3 := by rw [ewq]; exact Blk.new w14 [.int .i64 0] _ rfl
  have hbf : Blk w16 (w14.heap.size + 1) [.bool true] 4 := by rw [ew16]; exact Blk.new wq [.bool true] _ sq.symm
  have hba := hba.below hB16 hba.lt
  rw [← ewq, ← ew16]
  clear ewq ew16
  have HB14_16 := Lib.hid (hBq.trans (hB16.mono (by omega)))
  have HA16 := Lib.hid (HA14.out.trans (HB14_16.out.mono (by omega)))
  have hz16 := HA16.out.size
  have hl14 : b8 < w14.heap.size := Hb8_14.out.lt
  have hl14' : b10 < w14.heap.size := Hb10_14.out.lt
  have hbfl := hbf.lt
  have Hb8_16 := Lib.hid (Hb8_14.out.below HB14_16.out hl14)
  have Hb10_16 := Lib.hid (Hb10_14.out.below HB14_16.out hl14')
  have HJ0 : Hid (AskJ (w14.heap.size + 1) w14.heap.size w.heap.size lo hi ac (some ⟨0, 0, none⟩) rc.length cc cv2 l 0 w16 ∨ AskJ (w14.heap.size + 1) w14.heap.size w.heap.size lo hi ac av rc.length cc cv2 l 0 w16) := Lib.hid (.inr ⟨hbf, hba, Hbr.out.below HA16.out (by omega), Sl.below Hl.out rowE_loc HA16.out (by omega), by omega⟩)
  have HJ1 : Hid (AskJ (w14.heap.size + 1) w14.heap.size w.heap.size lo hi ac av rc.length cc cv2 l 0 w16) := Lib.hid ⟨hbf, hba, Hbr.out.below HA16.out (by omega), Sl.below Hl.out rowE_loc HA16.out (by omega), by omega⟩
  clear HJ0 hba hbf hBq hB16 sq
  obtain ⟨oc3, hoc3⟩ : ∃ oc, okL (selErr rc l keep3) rc = oc := ⟨_, rfl⟩
  obtain ⟨ol3, hol3⟩ : ∃ ol, okL (selErr rc l keep3) (relCanon (keepL keep3 l)) = ol := ⟨_, rfl⟩
  have Hos3 : Hid (∀ x ∈ ol3, ∀ a ∈ x, a.s.length ≤ 9223372036854775807) := Lib.hid (fun x hx => Hrs.out x (keepL_mem (relCanon_mem (okL_mem (by rw [hol3]; exact hx)))))
  obtain ⟨c0, c1⟩ := (Hby.out.below HA16.out hby).cells.c2
  simp only [Nat.zero_add] at c1
  go_wp2_with fail
  refine Select_any wa.heap.size w1.heap.size wa.heap.size w1.heap.size rc _ _ l _ 36 #[.pointer (some ⟨w14.heap.size + 1, 0, none⟩), .pointer (some ⟨w14.heap.size, 0, none⟩), .pointer (some ⟨w.heap.size, 0, none⟩)] keep3 (fun b => b = w14.heap.size + 1 ∨ b = w14.heap.size) (AskJ (w14.heap.size + 1) w14.heap.size w.heap.size lo hi ac av rc.length cc cv2 l) w16 (Sl.below Hyc.out Strs.loc HA16.out (by omega)) (by omega) (Sl.below Hyl.out rowE_loc HA16.out (by omega)) (by omega)
    (enters_of Try.func36 (by kernel_rfl) rfl) (fun b h => by rcases h with rfl | rfl <;> omega) (fun b h => by rcases h with rfl | rfl <;> omega) (fun b h => by rcases h with rfl | rfl <;> omega) HJ1.out (fun k u1 u2 hJ hB hz => hJ.below hB (by omega) (by omega) (by omega) (by omega))
    (fun k hk zlo zv w' R' hJ hz1 hz2 hoz hR' => Picks1_any (w14.heap.size + 1) w14.heap.size w.heap.size lo hi zlo k ac av rc.length cc cv2 l hk (by omega) zv w' hJ hoz (by omega) (by omega) (by omega) (by omega) (by omega) (by omega) (by omega) (by omega) (by omega) Hrs.out R' hR') _ (fun w17 cv3 lv3 hs3 hO3 hJ3 hT3 hR3 => ?_)
  rw [hoc3] at hT3
  rw [hol3] at hR3
  obtain ⟨p3, q3, rfl⟩ := Own.slice hT3
  obtain ⟨p4, q4, e4⟩ := Own.slice hR3.own
  rw [hR3.len] at e4
  subst e4
  have hA3 := HA16.out.trans (hO3.below hz16 (fun b h => by rcases h with rfl | rfl <;> omega))
  have HA17 := Lib.hid hA3
  have hz17 := hA3.size
  have hz1617 := hO3.size
  have HT3 := Lib.hid hT3
  have HR3 := Lib.hid hR3
  have hb8 := hO3.blk Hb8_16.out (by omega)
  have hb10 := hO3.blk Hb10_16.out (by omega)
  have Hb8_17 := Lib.hid hb8
  have Hb10_17 := Lib.hid hb10
  obtain ⟨na, hna⟩ : ∃ na : Nat, (if mayRel rc l then l.length else 0) = na := ⟨_, rfl⟩
  rw [hna] at hJ3
  have Hna : Hid ((if mayRel rc l then l.length else 0) = na) := Lib.hid hna
  clear hna
  have Hbf_17 := Lib.hid hJ3.fine
  have Hba_17 := Lib.hid hJ3.asked
  have f0 := hb8.free 0
  have f1 := hb8.free 1
  clear c0 c1
  obtain ⟨c0, c1⟩ := (hb8).cells.c2
  simp only [Nat.zero_add] at c1
  clear hA3 hT3 hR3 hb8 hb10 hJ3 hO3 HJ1
  go_upto_region 15 with fail
  have hown := own2Set HT3.out HR3.out Hb8_17.out (by decide) (by decide) (by decide) (.slice p3 oc3.length q3) (.slice p4 ol3.length q4)
  have hb10' := blk2Set Hb10_17.out (show b10 ≠ b8 by omega) (.slice p3 oc3.length q3) (.slice p4 ol3.length q4)
  have hbf' := blk2Set Hbf_17.out (show w14.heap.size + 1 ≠ b8 by omega) (.slice p3 oc3.length q3) (.slice p4 ol3.length q4)
  have hba' := blk2Set Hba_17.out (show w14.heap.size ≠ b8 by omega) (.slice p3 oc3.length q3) (.slice p4 ol3.length q4)
  have hA' := HA17.out.trans (below2Set w17 h2b8 (.slice p3 oc3.length q3) (.slice p4 ol3.length q4))
  have hzz := size2Set w17 b8 (.slice p3 oc3.length q3) (.slice p4 ol3.length q4)
  clear c0 c1 f0 f1 HT3 HR3 Hb8_17 Hb10_17 Hbf_17 Hba_17
  generalize (w17.setCell ⟨b8, 0, none⟩ (.slice p3 oc3.length q3)).setCell ⟨b8, 1, none⟩ (.slice p4 ol3.length q4) = w18 at *
  obtain ⟨hT2, hR2, hb82⟩ := hown
  have HT18 := Lib.hid hT2
  have HR18 := Lib.hid hR2
  have Hb8_18 := Lib.hid hb82
  have Hb10_18 := Lib.hid hb10'
  have Hbf_18 := Lib.hid hbf'
  have Hba_18 := Lib.hid hba'
  have HA18 := Lib.hid hA'
  have hz18 := hA'.size
  clear hT2 hR2 hb82 hb10' hbf' hba' hA'
  obtain ⟨c0, c1⟩ := (Hbr.out.below HA18.out (by omega)).cells.c2
  simp only [Nat.zero_add] at c1
  go_wp2_with fail
  refine ref_any _ _ _ _ _ _ w18 _ (fun w19 hB => ?_)
  have HB18_19 := Lib.hid hB
  have hz19 := hB.size
  have HA19 := Lib.hid (HA18.out.trans (hB.mono (by omega)))
  clear hB c0 c1
  go_wp2_with fail
  refine refMay_any lo hi lc hc rc _ _ l _ w19 (Sl.below Hrc.out Strs.loc HA19.out (by omega)) (by omega) (Sl.below Hl.out rowE_loc HA19.out (by omega)) (by omega) Hrs.out _ (fun w20 hB => ?_)
  have HB18_20 := Lib.hid (HB18_19.out.trans (hB.mono (by omega)))
  have hz20 := hB.size
  have HA20 := Lib.hid (HA19.out.trans (hB.mono (by omega)))
  clear hB
  obtain ⟨mb, hmb⟩ : ∃ mb, mayRel rc l = mb := ⟨_, rfl⟩
  rw [hmb]
  have Hmb : Hid (mayRel rc l = mb) := Lib.hid hmb
  clear hmb
  obtain ⟨c0, c1⟩ := (Hbr.out.below HA20.out (by omega)).cells.c2
  simp only [Nat.zero_add] at c1
  go_upto_region 18 with fail
  go_loopw [15, 83] (fun t15 t83 wr => ∃ (k : Nat), k ≤ l.length ∧ t83 = .int .i64 k ∧ LS w20.heap.size lo hi wr t15 (keepTo keep3 l k) ∧ Below w20.heap.size w20 wr) (fun _ t83 _ => l.length - (intOf t83).toNat)
  case atStart => exact ⟨0, Nat.zero_le _, rfl, LS.nil _ _ _ _, Below.refl _ _⟩
  case round =>
    obtain ⟨k, hk, rfl, ho, hB⟩ := hrel
    obtain ⟨wo, ewo⟩ : ∃ x, x = wr := ⟨_, rfl⟩
    subst ewo
    have Ho := Lib.hid ho
    have HBo := Lib.hid hB
    have HAo := Lib.hid (HA20.out.trans (hB.mono (by omega)))
    have hzo := hB.size
    have kk0 : (0 : Int) ≤ (k : Int) := by omega
    obtain ⟨po, co, hpo⟩ := ho.slice
    clear ho hB c0 c1
    obtain ⟨c0, c1⟩ := (Hbr.out.below HAo.out (by omega)).cells.c2
    simp only [Nat.zero_add] at c1
    by_cases hlt : k < l.length
    · have kkl : (k : Int) < (l.length : Int) := by omega
      obtain ⟨b4, o4, rfl, hb4, hrow4⟩ := Rws.at (Sl.below Hl.out rowE_loc HAo.out (by omega)) (by omega) (by omega)
      obtain ⟨p2, c2, g2, r2⟩ := hrow4 k hlt
      have g0 := g2 wo (Below.refl _ _)
      have R2 := Lib.hid r2
      have Hst := Lib.hid (keepTo_succ keep3 l k hlt)
      have Hkl : Hid ((keepTo keep3 l k).length ≤ k) := Lib.hid (keepTo_len _ _ _)
      have hks : (((k : Int) + 1) % 3 != 0) = keep3 k := by
        unfold keep3
        rw [Bool.eq_iff_iff]
        simp only [bne_iff_ne, ne_eq]
        omega
      clear hrow4 g2 r2
      generalize l[k] = xb at *
      subst hpo
      cases hk3 : keep3 k
      · rw [hk3] at hks
        have Hn : Hid (keepTo keep3 l (k + 1) = keepTo keep3 l k) := Lib.hid (by rw [Hst.out, hk3]; simp)
        clear hk3
        go_wp2_with fail
        go_roundw
        case rel => exact ⟨k + 1, by omega, by go_num, by rw [Hn.out]; exact Ho.out, HBo.out⟩
        case measure => simp [intOf]; omega
      · rw [hk3] at hks
        have Hn : Hid (keepTo keep3 l (k + 1) = keepTo keep3 l k ++ [xb]) := Lib.hid (by rw [Hst.out, hk3]; simp)
        obtain ⟨v3, w3', hr3, ho3, ha3⟩ := LS.snoc Ho.out (by omega) p2 c2 xb R2.out rfl (by have := Hkl.out; omega) (by omega)
        have HO3 := Lib.hid ho3
        have HB3 := Lib.hid (HBo.out.trans (ha3.below (B := w20.heap.size) (by omega) (fun q e => (LS.lt Ho.out q e).1)))
        clear ho3 ha3 hk3
        go_wp2_with (at_builtin; refine AtApp.of ?_)
        refine AtApp.go hr3 rfl rfl rfl rfl ?_
        go_wp2_with fail
        go_roundw
        case rel => exact ⟨k + 1, by omega, by go_num, by rw [Hn.out]; exact HO3.out, HB3.out⟩
        case measure => simp [intOf]; omega
    · obtain rfl : k = l.length := by omega
      have llt : ¬ ((l.length : Nat) : Int) < (l.length : Int) := by omega
      have HLS : Hid (LS w20.heap.size lo hi wo _ (keepL keep3 l)) := Lib.hid Ho.out
      have hpo' : _ = Value.slice po (keepL keep3 l).length co := hpo
      have hkl2 : (keepL keep3 l).length ≤ 150 := Nat.le_trans (keepL_len _ _) hll
      have hB18o := HB18_20.out.trans (HBo.out.mono (by omega))
      have HTo := Lib.hid (Own.kept HT18.out hB18o)
      have HRo := Lib.hid (OwnR.kept HR18.out hB18o)
      have Hb8_o := Lib.hid (Hb8_18.out.below hB18o Hb8_18.out.lt)
      have Hb10_o := Lib.hid (Hb10_18.out.below hB18o Hb10_18.out.lt)
      have Hbf_o := Lib.hid (Hbf_18.out.below hB18o Hbf_18.out.lt)
      have Hba_o := Lib.hid (Hba_18.out.below hB18o Hba_18.out.lt)
      have hb10l := Hb10_18.out.lt
      clear hpo Ho hB18o HT18 HR18 Hb8_18 Hb10_18 Hbf_18 Hba_18
      subst hpo'
      have f0 := Hb10_o.out.free 0
      have f1 := Hb10_o.out.free 1
      obtain ⟨d0, d1⟩ := Hb10_o.out.cells.c2
      simp only [Nat.zero_add] at d1
      go_upto_region 24 with fail
      have hown := own2Set HTo.out HRo.out Hb10_o.out (by decide) (by decide) (by decide) (.slice none 0 0) (.slice none 0 0)
      have hb8' := blk2Set Hb8_o.out (show b8 ≠ b10 by omega) (.slice none 0 0) (.slice none 0 0)
      have hbf' := blk2Set Hbf_o.out (show w14.heap.size + 1 ≠ b10 by omega) (.slice none 0 0) (.slice none 0 0)
      have hba' := blk2Set Hba_o.out (show w14.heap.size ≠ b10 by omega) (.slice none 0 0) (.slice none 0 0)
      have hA' := HAo.out.trans (below2Set wo h2b10 (.slice none 0 0) (.slice none 0 0))
      have hzz := size2Set wo b10 (.slice none 0 0) (.slice none 0 0)
      have hLS' := LS.same HLS.out (w' := (wo.setCell ⟨b10, 0, none⟩ (.slice none 0 0)).setCell ⟨b10, 1, none⟩ (.slice none 0 0)) (fun g e => (Below.heap_setCell _ _ _ _ (by have := (LS.lt HLS.out g e).1; show g ≠ b10; omega)).trans (Below.heap_setCell _ _ _ _ (by have := (LS.lt HLS.out g e).1; show g ≠ b10; omega))) (agree2Set wo (b := b10) (.inr (by omega)) (.slice none 0 0) (.slice none 0 0))
      clear c0 c1 d0 d1 f0 f1 HTo HRo Hb8_o Hb10_o Hbf_o Hba_o HLS HAo HBo
      generalize (wo.setCell ⟨b10, 0, none⟩ (.slice none 0 0)).setCell ⟨b10, 1, none⟩ (.slice none 0 0) = w21 at *
      obtain ⟨hT2, hR2, hb102⟩ := hown
      have HT21 := Lib.hid hT2
      have HR21 := Lib.hid hR2
      have Hb8_21 := Lib.hid hb8'
      have Hb10_21 := Lib.hid hb102
      have Hbf_21 := Lib.hid hbf'
      have Hba_21 := Lib.hid hba'
      have HA21 := Lib.hid hA'
      have HLS21 := Lib.hid hLS'
      have hz21 := hA'.size
      clear hT2 hR2 hb102 hb8' hbf' hba' hA' hLS'
      cases mb
      · have he : selErr rc l keep3 = 2 := by unfold selErr; rw [Hmb.out]; rfl
        obtain rfl : na = 0 := by rw [← Hna.out, Hmb.out]; rfl
        obtain rfl : oc3 = [] := by rw [← hoc3, he]; rfl
        obtain rfl : ol3 = [] := by rw [← hol3, he]; rfl
        rw [he]
        clear he hoc3 hol3
        obtain ⟨c0, c1⟩ := (Hb8_21.out).cells.c2
        simp only [Nat.zero_add] at c1
        obtain ⟨d0, d1⟩ := (Hb10_21.out).cells.c2
        simp only [Nat.zero_add] at d1
        go_wp2_with fail
        refine toldO_any w2.heap.size 0 0 0 0 _ _ _ _ _ _ _ _ w21 (by omega) (Own.lower HT21.out (by omega)) (Sl.nil _ _ _ _ _) (OwnR.lower HR21.out (by omega)) (Sl.nil _ _ _ _ _) (by omega) (by omega) Hos3.out _ (fun w24 hB8 hO8 => ?_)
        have hbf24 := hO8.blk Hbf_21.out (TB.not HT21.out HR21.out Hbf_21.out (by decide) (by decide))
        have hba24 := hO8.blk Hba_21.out (TB.not HT21.out HR21.out Hba_21.out (by decide) (by decide))
        have HA24 := Lib.hid (HA21.out.trans hB8)
        have hz24 := HA24.out.size
        have Hby24 := Lib.hid (Hby.out.below HA24.out hby)
        have Hbr24 := Lib.hid (Hbr.out.below HA24.out hr2)
        have k0 := hbf24.cells.c1
        have k1 := hba24.cells.c1
        have hlby : w1.heap.size < w24.heap.size := by omega
        have hlbr : w.heap.size < w24.heap.size := by omega
        clear hB8 hO8 c0 c1 d0 d1 hbf24 hba24
        obtain ⟨c0, c1⟩ := (Hbr24.out).cells.c2
        simp only [Nat.zero_add] at c1
        go_upto_region 28 with fail
        clear k0 k1 c0 c1
        have hS0 : Below w24.heap.size w24 w24.drew := (Below.refl _ _).drew
        refine wp_region_held_drew (S := fun w' => Below w24.heap.size w24 w') (by kernel_rfl) hS0 (fun hHeld => ?_)
        refine wpAnyH_take (i := 0) (v := .agg #[.slice ayc rc.length cyc, .slice ayl l.length cyl]) rfl (by kernel_rfl) (by kernel_rfl) (by kernel_rfl) (fun _ _ _ h => h) (Or.inl ⟨by rfl, ?_⟩) hHeld ?_
        · intro w' hSw; have kx := (Hby24.out.below hSw hlby).cells.runVar (P := Try.prog) (t := 34) (fun _ => by kernel_rfl) (fun _ => by kernel_rfl); obtain ⟨z0, z1⟩ := (Hby24.out.below hSw hlby).cells.c2; simp only [Nat.zero_add] at z1; go_simp
        try simp only [Act.put, List.getElem_toArray, List.getElem_cons_succ, List.getElem_cons_zero, List.setIfInBounds_toArray, List.set_cons_zero, List.set_cons_succ]
        refine wpAnyH_take (i := 2) (v := .bool false) rfl (by kernel_rfl) (by kernel_rfl) (by kernel_rfl) (fun _ _ _ h => h) (Or.inl ⟨by rfl, ?_⟩) hHeld ?_
        · intro w' hSw; go_simp
        try simp only [Act.put, List.getElem_toArray, List.getElem_cons_succ, List.getElem_cons_zero, List.setIfInBounds_toArray, List.set_cons_zero, List.set_cons_succ]
        refine wpAnyH_ready (rs := [1]) (by kernel_rfl) (by simp) ?_
        refine allCall (f := 38) (args := #[.agg #[.slice ayc rc.length cyc, .slice ayl l.length cyl]]) rfl (by kernel_rfl) (by kernel_rfl) ?_ AllReadyH.nil
        refine May_any wa.heap.size w1.heap.size wa.heap.size w1.heap.size rc _ _ l _ w24.drew (Sl.below (Sl.below Hyc.out Strs.loc HA24.out (by omega)) Strs.loc hHeld (by omega)) (by have := hHeld.size; omega) (Sl.below (Sl.below Hyl.out rowE_loc HA24.out (by omega)) rowE_loc hHeld (by omega)) (by have := hHeld.size; omega) _ (fun wq1 hB => ?_)
        rw [Hmb.out]
        refine ⟨_, rfl, hHeld.trans (hB.mono hHeld.size), ?_⟩
        have hHeld2 := hHeld.trans (hB.mono hHeld.size)
        clear hHeld
        have hHeld := hHeld2
        clear hHeld2
        clear hB
        try simp only [Act.put, List.getElem_toArray, List.getElem_cons_succ, List.getElem_cons_zero, List.setIfInBounds_toArray, List.set_cons_zero, List.set_cons_succ]
        refine wpAnyH_take (i := 3) (v := .bool true) rfl (by kernel_rfl) (by kernel_rfl) (by kernel_rfl) (fun _ _ _ h => h) (Or.inl ⟨by rfl, ?_⟩) hHeld ?_
        · intro w' hSw; go_simp
        try simp only [Act.put, List.getElem_toArray, List.getElem_cons_succ, List.getElem_cons_zero, List.setIfInBounds_toArray, List.set_cons_zero, List.set_cons_succ]
        refine wpAnyH_take (i := 4) (v := .bool true) rfl (by kernel_rfl) (by kernel_rfl) (by kernel_rfl) (fun _ _ _ h => h) (Or.inl ⟨by rfl, ?_⟩) hHeld ?_
        · intro w' hSw; go_simp
        try simp only [Act.put, List.getElem_toArray, List.getElem_cons_succ, List.getElem_cons_zero, List.setIfInBounds_toArray, List.set_cons_zero, List.set_cons_succ]
        refine wpAnyH_take (i := 5) (v := .agg #[.slice ayc rc.length cyc, .slice ayl l.length cyl]) rfl (by kernel_rfl) (by kernel_rfl) (by kernel_rfl) (fun _ _ _ h => h) (Or.inl ⟨by rfl, ?_⟩) hHeld ?_
        · intro w' hSw; have kx := (Hby24.out.below hSw hlby).cells.runVar (P := Try.prog) (t := 34) (fun _ => by kernel_rfl) (fun _ => by kernel_rfl); obtain ⟨z0, z1⟩ := (Hby24.out.below hSw hlby).cells.c2; simp only [Nat.zero_add] at z1; go_simp
        try simp only [Act.put, List.getElem_toArray, List.getElem_cons_succ, List.getElem_cons_zero, List.setIfInBounds_toArray, List.set_cons_zero, List.set_cons_succ]
        refine wpAnyH_take (i := 6) (v := .slice ax x.length cx) rfl (by kernel_rfl) (by kernel_rfl) (by kernel_rfl) (fun _ _ _ h => h) (Or.inl ⟨by rfl, ?_⟩) hHeld ?_
        · intro w' hSw; go_simp
        try simp only [Act.put, List.getElem_toArray, List.getElem_cons_succ, List.getElem_cons_zero, List.setIfInBounds_toArray, List.set_cons_zero, List.set_cons_succ]
        refine wpAnyH_take (i := 8) (v := .agg #[.slice ac rc.length cc, .slice av l.length cv2]) rfl (by kernel_rfl) (by kernel_rfl) (by kernel_rfl) (fun _ _ _ h => h) (Or.inl ⟨by rfl, ?_⟩) hHeld ?_
        · intro w' hSw; have kx := (Hbr24.out.below hSw hlbr).cells.runVar (P := Try.prog) (t := 34) (fun _ => by kernel_rfl) (fun _ => by kernel_rfl); obtain ⟨z0, z1⟩ := (Hbr24.out.below hSw hlbr).cells.c2; simp only [Nat.zero_add] at z1; go_simp
        try simp only [Act.put, List.getElem_toArray, List.getElem_cons_succ, List.getElem_cons_zero, List.setIfInBounds_toArray, List.set_cons_zero, List.set_cons_succ]
        refine wpAnyH_take (i := 10) (v := .slice ax x.length cx) rfl (by kernel_rfl) (by kernel_rfl) (by kernel_rfl) (fun _ _ _ h => h) (Or.inl ⟨by rfl, ?_⟩) hHeld ?_
        · intro w' hSw; go_simp
        try simp only [Act.put, List.getElem_toArray, List.getElem_cons_succ, List.getElem_cons_zero, List.setIfInBounds_toArray, List.set_cons_zero, List.set_cons_succ]
        refine wpAnyH_ready (rs := [7]) (by kernel_rfl) (by simp) ?_
        refine allCall (f := 39) (args := #[.agg #[.slice ayc rc.length cyc, .slice ayl l.length cyl], .slice ax x.length cx]) rfl (by kernel_rfl) (by kernel_rfl) ?_ AllReadyH.nil
        refine Has_any wa.heap.size w1.heap.size wa.heap.size w1.heap.size l4 h4 rc _ _ l _ x _ wq1 (Sl.below (Sl.below Hyc.out Strs.loc HA24.out (by omega)) Strs.loc hHeld (by omega)) (by have := hHeld.size; omega) (Sl.below (Sl.below Hyl.out rowE_loc HA24.out (by omega)) rowE_loc hHeld (by omega)) (by have := hHeld.size; omega) (Sl.below (Sl.below Hx.out Row1.loc HA24.out (by omega)) Row1.loc hHeld (by omega)) (by have := hHeld.size; omega) _ (fun wq2 hB => ?_)
        refine ⟨_, rfl, hHeld.trans (hB.mono hHeld.size), ?_⟩
        have hHeld2 := hHeld.trans (hB.mono hHeld.size)
        clear hHeld
        have hHeld := hHeld2
        clear hHeld2
        clear hB
        try simp only [Act.put, List.getElem_toArray, List.getElem_cons_succ, List.getElem_cons_zero, List.setIfInBounds_toArray, List.set_cons_zero, List.set_cons_succ]
        refine wpAnyH_ready (rs := [9]) (by kernel_rfl) (by simp) ?_
        refine allCall (f := 32) (args := #[.agg #[.slice ac rc.length cc, .slice av l.length cv2]]) rfl (by kernel_rfl) (by kernel_rfl) ?_ AllReadyH.nil
        refine ref_any _ _ _ _ _ _ wq2 _ (fun wq3 hB => ?_)
        refine ⟨_, rfl, hHeld.trans (hB.mono hHeld.size), ?_⟩
        have hHeld2 := hHeld.trans (hB.mono hHeld.size)
        clear hHeld
        have hHeld := hHeld2
        clear hHeld2
        clear hB
        try simp only [Act.put, List.getElem_toArray, List.getElem_cons_succ, List.getElem_cons_zero, List.setIfInBounds_toArray, List.set_cons_zero, List.set_cons_succ]
        refine wpAnyH_ready (rs := [11]) (by kernel_rfl) (by simp) ?_
        refine allCall (f := 40) (args := #[.agg #[.slice ac rc.length cc, .slice av l.length cv2], .slice ax x.length cx]) rfl (by kernel_rfl) (by kernel_rfl) ?_ AllReadyH.nil
        refine refHas_any lo hi lc hc l4 h4 rc _ _ l _ x _ wq3 (Sl.below (Sl.below Hrc.out Strs.loc HA24.out (by omega)) Strs.loc hHeld (by omega)) (by have := hHeld.size; omega) (Sl.below (Sl.below Hl.out rowE_loc HA24.out (by omega)) rowE_loc hHeld (by omega)) (by have := hHeld.size; omega) (Sl.below (Sl.below Hx.out Row1.loc HA24.out (by omega)) Row1.loc hHeld (by omega)) (by have := hHeld.size; omega) Hrs.out Hxs.out _ (fun wq4 hB => ?_)
        refine ⟨_, rfl, hHeld.trans (hB.mono hHeld.size), ?_⟩
        have hHeld2 := hHeld.trans (hB.mono hHeld.size)
        clear hHeld
        have hHeld := hHeld2
        clear hHeld2
        clear hB
        try simp only [Act.put, List.getElem_toArray, List.getElem_cons_succ, List.getElem_cons_zero, List.setIfInBounds_toArray, List.set_cons_zero, List.set_cons_succ]
        refine wpAnyH_take (i := 12) (v := .bool true) rfl (by kernel_rfl) (by kernel_rfl) (by kernel_rfl) (fun _ _ _ h => h) (Or.inl ⟨by rfl, ?_⟩) hHeld ?_
        · intro w' hSw; go_simp
        try simp only [Act.put, List.getElem_toArray, List.getElem_cons_succ, List.getElem_cons_zero, List.setIfInBounds_toArray, List.set_cons_zero, List.set_cons_succ]
        refine wpAnyH_take (i := 13) (v := .bool true) rfl (by kernel_rfl) (by kernel_rfl) (by kernel_rfl) (fun _ _ _ h => h) (Or.inl ⟨by rfl, ?_⟩) hHeld ?_
        · intro w' hSw; go_simp
        try simp only [Act.put, List.getElem_toArray, List.getElem_cons_succ, List.getElem_cons_zero, List.setIfInBounds_toArray, List.set_cons_zero, List.set_cons_succ]
        refine wpAnyH_take (i := 14) (v := .bool true) rfl (by kernel_rfl) (by kernel_rfl) (by kernel_rfl) (fun _ _ _ h => h) (Or.inl ⟨by rfl, ?_⟩) hHeld ?_
        · intro w' hSw; go_simp
        try simp only [Act.put, List.getElem_toArray, List.getElem_cons_succ, List.getElem_cons_zero, List.setIfInBounds_toArray, List.set_cons_zero, List.set_cons_succ]
        refine wpAnyH_take (i := 15) (v := .agg #[.slice ayc rc.length cyc, .slice ayl l.length cyl]) rfl (by kernel_rfl) (by kernel_rfl) (by kernel_rfl) (fun _ _ _ h => h) (Or.inl ⟨by rfl, ?_⟩) hHeld ?_
        · intro w' hSw; have kx := (Hby24.out.below hSw hlby).cells.runVar (P := Try.prog) (t := 34) (fun _ => by kernel_rfl) (fun _ => by kernel_rfl); obtain ⟨z0, z1⟩ := (Hby24.out.below hSw hlby).cells.c2; simp only [Nat.zero_add] at z1; go_simp
        try simp only [Act.put, List.getElem_toArray, List.getElem_cons_succ, List.getElem_cons_zero, List.setIfInBounds_toArray, List.set_cons_zero, List.set_cons_succ]
        refine wpAnyH_take (i := 16) (v := .agg #[.slice ac rc.length cc, .slice av l.length cv2]) rfl (by kernel_rfl) (by kernel_rfl) (by kernel_rfl) (fun _ _ _ h => h) (Or.inl ⟨by rfl, ?_⟩) hHeld ?_
        · intro w' hSw; have kx := (Hbr24.out.below hSw hlbr).cells.runVar (P := Try.prog) (t := 34) (fun _ => by kernel_rfl) (fun _ => by kernel_rfl); obtain ⟨z0, z1⟩ := (Hbr24.out.below hSw hlbr).cells.c2; simp only [Nat.zero_add] at z1; go_simp
        try simp only [Act.put, List.getElem_toArray, List.getElem_cons_succ, List.getElem_cons_zero, List.setIfInBounds_toArray, List.set_cons_zero, List.set_cons_succ]
        refine wpAnyH_ready (rs := [17]) (by kernel_rfl) (by simp) ?_
        refine allCall (f := 29) (args := #[.agg #[.slice ayc rc.length cyc, .slice ayl l.length cyl], .agg #[.slice ac rc.length cc, .slice av l.length cv2]]) rfl (by kernel_rfl) (by kernel_rfl) ?_ AllReadyH.nil
        refine lawSame_any wa.heap.size w1.heap.size lo hi wa.heap.size w1.heap.size lc hc rc l _ _ _ _ wq4 (Sl.below (Sl.below Hyc.out Strs.loc HA24.out (by omega)) Strs.loc hHeld (by omega)) (Sl.below (Sl.below Hrc.out Strs.loc HA24.out (by omega)) Strs.loc hHeld (by omega)) (Sl.below (Sl.below Hyl.out rowE_loc HA24.out (by omega)) rowE_loc hHeld (by omega)) (Sl.below (Sl.below Hl.out rowE_loc HA24.out (by omega)) rowE_loc hHeld (by omega)) (by have := hHeld.size; omega) (by have := hHeld.size; omega) (by have := hHeld.size; omega) (by have := hHeld.size; omega) Hrs.out _ (fun wq5 hB => ?_)
        refine ⟨_, rfl, hHeld.trans (hB.mono hHeld.size), ?_⟩
        have hHeld2 := hHeld.trans (hB.mono hHeld.size)
        clear hHeld
        have hHeld := hHeld2
        clear hHeld2
        clear hB
        try simp only [Act.put, List.getElem_toArray, List.getElem_cons_succ, List.getElem_cons_zero, List.setIfInBounds_toArray, List.set_cons_zero, List.set_cons_succ]
        refine wpAnyH_take (i := 18) (v := .bool true) rfl (by kernel_rfl) (by kernel_rfl) (by kernel_rfl) (fun _ _ _ h => h) (Or.inl ⟨by rfl, ?_⟩) hHeld ?_
        · intro w' hSw; go_simp
        try simp only [Act.put, List.getElem_toArray, List.getElem_cons_succ, List.getElem_cons_zero, List.setIfInBounds_toArray, List.set_cons_zero, List.set_cons_succ]
        refine wpAnyH_take (i := 19) (v := .bool true) rfl (by kernel_rfl) (by kernel_rfl) (by kernel_rfl) (fun _ _ _ h => h) (Or.inl ⟨by rfl, ?_⟩) hHeld ?_
        · intro w' hSw; go_simp
        try simp only [Act.put, List.getElem_toArray, List.getElem_cons_succ, List.getElem_cons_zero, List.setIfInBounds_toArray, List.set_cons_zero, List.set_cons_succ]
        have HH2 := Lib.hid hHeld
        refine wpAnyH_done (by kernel_rfl) ?_ _
        clear hHeld
        have hr := HR.out wq5 (HBw2.out.trans ((HA24.out.trans (HH2.out.mono (by omega))).mono (by omega)))
        go_wp2_with fail
        first | exact hr | exact fin hr rfl
      · have he : ofErr rc (keepL keep3 l) = selErr rc l keep3 := by rw [of_made Hmb.out (fun x hx => keepL_mem hx)]; unfold selErr; rw [Hmb.out]; rfl
        obtain rfl : na = l.length := by rw [← Hna.out, Hmb.out]; rfl
        obtain ⟨c0, c1⟩ := (Hbr.out.below HA21.out (by omega)).cells.c2
        simp only [Nat.zero_add] at c1
        go_wp2_with fail
        refine refOfP_any 0 w21.heap.size lc hc rc _ _ (keepL keep3 l) _ w21 (Sl.below Hrc.out Strs.loc HA21.out (by omega)) (by omega) (LS.rws HLS21.out (by omega)) (Nat.le_refl _) (by omega) (fun x hx => by have := Hxl.out x (keepL_mem hx); omega) (fun x hx => Hrs.out x (keepL_mem hx)) _ (fun w22 cv6 lv6 hB6 hT6 hR6 => ?_)
        rw [he, hoc3] at hT6
        rw [he, hol3] at hR6
        rw [he]
        obtain ⟨p5, q5, rfl, -, -, -, -⟩ := hT6.form
        obtain ⟨p6, q6, rfl, -, -, -, -⟩ := hR6.form
        have hz22 := hB6.size
        have HA22 := Lib.hid (HA21.out.trans (hB6.mono (by omega)))
        have HT4 := Lib.hid (Own.kept HT21.out hB6)
        have HR4 := Lib.hid (OwnR.kept HR21.out hB6)
        have hb10l2 := Hb10_21.out.lt
        have Hb8_22 := Lib.hid (Hb8_21.out.below hB6 Hb8_21.out.lt)
        have Hb10_22 := Lib.hid (Hb10_21.out.below hB6 Hb10_21.out.lt)
        have Hbf_22 := Lib.hid (Hbf_21.out.below hB6 Hbf_21.out.lt)
        have Hba_22 := Lib.hid (Hba_21.out.below hB6 Hba_21.out.lt)
        have HT6 := Lib.hid hT6
        have HR6 := Lib.hid hR6
        have f0 := Hb10_22.out.free 0
        have f1 := Hb10_22.out.free 1
        clear c0 c1 hB6 hT6 hR6 hoc3 hol3 he
        obtain ⟨c0, c1⟩ := (Hb10_22.out).cells.c2
        simp only [Nat.zero_add] at c1
        go_upto_region 26 with fail
        have hown := own2Set HT4.out HR4.out Hb10_22.out (by decide) (by decide) (by decide) (.slice p5 oc3.length q5) (.slice p6 ol3.length q6)
        have hb8' := blk2Set Hb8_22.out (show b8 ≠ b10 by omega) (.slice p5 oc3.length q5) (.slice p6 ol3.length q6)
        have hbf' := blk2Set Hbf_22.out (show w14.heap.size + 1 ≠ b10 by omega) (.slice p5 oc3.length q5) (.slice p6 ol3.length q6)
        have hba' := blk2Set Hba_22.out (show w14.heap.size ≠ b10 by omega) (.slice p5 oc3.length q5) (.slice p6 ol3.length q6)
        have hA' := HA22.out.trans (below2Set w22 h2b10 (.slice p5 oc3.length q5) (.slice p6 ol3.length q6))
        have hTb := Sl.agree HT6.out Strs.loc (agree2Set w22 (b := b10) (.inr (by omega)) (.slice p5 oc3.length q5) (.slice p6 ol3.length q6))
        have hRb := Sl.agree HR6.out rowE_loc (agree2Set w22 (b := b10) (.inl (by omega)) (.slice p5 oc3.length q5) (.slice p6 ol3.length q6))
        have hzz2 := size2Set w22 b10 (.slice p5 oc3.length q5) (.slice p6 ol3.length q6)
        clear c0 c1 f0 f1 HT4 HR4 HT6 HR6 Hb8_22 Hb10_22 Hbf_22 Hba_22
        generalize (w22.setCell ⟨b10, 0, none⟩ (.slice p5 oc3.length q5)).setCell ⟨b10, 1, none⟩ (.slice p6 ol3.length q6) = w23 at *
        obtain ⟨hT5, hR5, hb105⟩ := hown
        have HT23 := Lib.hid hT5
        have HR23 := Lib.hid hR5
        have HTb := Lib.hid hTb
        have HRb := Lib.hid hRb
        have Hb8_23 := Lib.hid hb8'
        have Hb10_23 := Lib.hid hb105
        have Hbf_23 := Lib.hid hbf'
        have Hba_23 := Lib.hid hba'
        have HA23 := Lib.hid hA'
        have hz23 := hA'.size
        clear hT5 hR5 hb105 hb8' hbf' hba' hA' hTb hRb
        obtain ⟨c0, c1⟩ := (Hb8_23.out).cells.c2
        simp only [Nat.zero_add] at c1
        obtain ⟨d0, d1⟩ := (Hb10_23.out).cells.c2
        simp only [Nat.zero_add] at d1
        go_wp2_with fail
        refine toldO_any w2.heap.size w21.heap.size w22.heap.size lc hc _ _ _ _ _ _ _ _ w23 (by omega) (Own.lower HT23.out (by omega)) HTb.out (OwnR.lower HR23.out (by omega)) HRb.out (by omega) (by omega) Hos3.out _ (fun w24 hB8 hO8 => ?_)
        have hbf24 := hO8.blk Hbf_23.out (TB.not HT23.out HR23.out Hbf_23.out (by decide) (by decide))
        have hba24 := hO8.blk Hba_23.out (TB.not HT23.out HR23.out Hba_23.out (by decide) (by decide))
        have HA24 := Lib.hid (HA23.out.trans hB8)
        have hz24 := HA24.out.size
        have Hby24 := Lib.hid (Hby.out.below HA24.out hby)
        have Hbr24 := Lib.hid (Hbr.out.below HA24.out hr2)
        have k0 := hbf24.cells.c1
        have k1 := hba24.cells.c1
        have hlby : w1.heap.size < w24.heap.size := by omega
        have hlbr : w.heap.size < w24.heap.size := by omega
        clear hB8 hO8 c0 c1 d0 d1 hbf24 hba24
        obtain ⟨c0, c1⟩ := (Hbr24.out).cells.c2
        simp only [Nat.zero_add] at c1
        go_upto_region 28 with fail
        clear k0 k1 c0 c1
        have hS0 : Below w24.heap.size w24 w24.drew := (Below.refl _ _).drew
        refine wp_region_held_drew (S := fun w' => Below w24.heap.size w24 w') (by kernel_rfl) hS0 (fun hHeld => ?_)
        refine wpAnyH_take (i := 0) (v := .agg #[.slice ayc rc.length cyc, .slice ayl l.length cyl]) rfl (by kernel_rfl) (by kernel_rfl) (by kernel_rfl) (fun _ _ _ h => h) (Or.inl ⟨by rfl, ?_⟩) hHeld ?_
        · intro w' hSw; have kx := (Hby24.out.below hSw hlby).cells.runVar (P := Try.prog) (t := 34) (fun _ => by kernel_rfl) (fun _ => by kernel_rfl); obtain ⟨z0, z1⟩ := (Hby24.out.below hSw hlby).cells.c2; simp only [Nat.zero_add] at z1; go_simp
        try simp only [Act.put, List.getElem_toArray, List.getElem_cons_succ, List.getElem_cons_zero, List.setIfInBounds_toArray, List.set_cons_zero, List.set_cons_succ]
        refine wpAnyH_take (i := 2) (v := .bool true) rfl (by kernel_rfl) (by kernel_rfl) (by kernel_rfl) (fun _ _ _ h => h) (Or.inl ⟨by rfl, ?_⟩) hHeld ?_
        · intro w' hSw; go_simp
        try simp only [Act.put, List.getElem_toArray, List.getElem_cons_succ, List.getElem_cons_zero, List.setIfInBounds_toArray, List.set_cons_zero, List.set_cons_succ]
        refine wpAnyH_ready (rs := [1]) (by kernel_rfl) (by simp) ?_
        refine allCall (f := 38) (args := #[.agg #[.slice ayc rc.length cyc, .slice ayl l.length cyl]]) rfl (by kernel_rfl) (by kernel_rfl) ?_ AllReadyH.nil
        refine May_any wa.heap.size w1.heap.size wa.heap.size w1.heap.size rc _ _ l _ w24.drew (Sl.below (Sl.below Hyc.out Strs.loc HA24.out (by omega)) Strs.loc hHeld (by omega)) (by have := hHeld.size; omega) (Sl.below (Sl.below Hyl.out rowE_loc HA24.out (by omega)) rowE_loc hHeld (by omega)) (by have := hHeld.size; omega) _ (fun wq1 hB => ?_)
        rw [Hmb.out]
        refine ⟨_, rfl, hHeld.trans (hB.mono hHeld.size), ?_⟩
        have hHeld2 := hHeld.trans (hB.mono hHeld.size)
        clear hHeld
        have hHeld := hHeld2
        clear hHeld2
        clear hB
        try simp only [Act.put, List.getElem_toArray, List.getElem_cons_succ, List.getElem_cons_zero, List.setIfInBounds_toArray, List.set_cons_zero, List.set_cons_succ]
        refine wpAnyH_take (i := 3) (v := .bool true) rfl (by kernel_rfl) (by kernel_rfl) (by kernel_rfl) (fun _ _ _ h => h) (Or.inl ⟨by rfl, ?_⟩) hHeld ?_
        · intro w' hSw; go_simp
        try simp only [Act.put, List.getElem_toArray, List.getElem_cons_succ, List.getElem_cons_zero, List.setIfInBounds_toArray, List.set_cons_zero, List.set_cons_succ]
        refine wpAnyH_take (i := 4) (v := .bool true) rfl (by kernel_rfl) (by kernel_rfl) (by kernel_rfl) (fun _ _ _ h => h) (Or.inl ⟨by rfl, ?_⟩) hHeld ?_
        · intro w' hSw; go_simp
        try simp only [Act.put, List.getElem_toArray, List.getElem_cons_succ, List.getElem_cons_zero, List.setIfInBounds_toArray, List.set_cons_zero, List.set_cons_succ]
        refine wpAnyH_take (i := 5) (v := .agg #[.slice ayc rc.length cyc, .slice ayl l.length cyl]) rfl (by kernel_rfl) (by kernel_rfl) (by kernel_rfl) (fun _ _ _ h => h) (Or.inl ⟨by rfl, ?_⟩) hHeld ?_
        · intro w' hSw; have kx := (Hby24.out.below hSw hlby).cells.runVar (P := Try.prog) (t := 34) (fun _ => by kernel_rfl) (fun _ => by kernel_rfl); obtain ⟨z0, z1⟩ := (Hby24.out.below hSw hlby).cells.c2; simp only [Nat.zero_add] at z1; go_simp
        try simp only [Act.put, List.getElem_toArray, List.getElem_cons_succ, List.getElem_cons_zero, List.setIfInBounds_toArray, List.set_cons_zero, List.set_cons_succ]
        refine wpAnyH_take (i := 6) (v := .slice ax x.length cx) rfl (by kernel_rfl) (by kernel_rfl) (by kernel_rfl) (fun _ _ _ h => h) (Or.inl ⟨by rfl, ?_⟩) hHeld ?_
        · intro w' hSw; go_simp
        try simp only [Act.put, List.getElem_toArray, List.getElem_cons_succ, List.getElem_cons_zero, List.setIfInBounds_toArray, List.set_cons_zero, List.set_cons_succ]
        refine wpAnyH_take (i := 8) (v := .agg #[.slice ac rc.length cc, .slice av l.length cv2]) rfl (by kernel_rfl) (by kernel_rfl) (by kernel_rfl) (fun _ _ _ h => h) (Or.inl ⟨by rfl, ?_⟩) hHeld ?_
        · intro w' hSw; have kx := (Hbr24.out.below hSw hlbr).cells.runVar (P := Try.prog) (t := 34) (fun _ => by kernel_rfl) (fun _ => by kernel_rfl); obtain ⟨z0, z1⟩ := (Hbr24.out.below hSw hlbr).cells.c2; simp only [Nat.zero_add] at z1; go_simp
        try simp only [Act.put, List.getElem_toArray, List.getElem_cons_succ, List.getElem_cons_zero, List.setIfInBounds_toArray, List.set_cons_zero, List.set_cons_succ]
        refine wpAnyH_take (i := 10) (v := .slice ax x.length cx) rfl (by kernel_rfl) (by kernel_rfl) (by kernel_rfl) (fun _ _ _ h => h) (Or.inl ⟨by rfl, ?_⟩) hHeld ?_
        · intro w' hSw; go_simp
        try simp only [Act.put, List.getElem_toArray, List.getElem_cons_succ, List.getElem_cons_zero, List.setIfInBounds_toArray, List.set_cons_zero, List.set_cons_succ]
        refine wpAnyH_ready (rs := [7]) (by kernel_rfl) (by simp) ?_
        refine allCall (f := 39) (args := #[.agg #[.slice ayc rc.length cyc, .slice ayl l.length cyl], .slice ax x.length cx]) rfl (by kernel_rfl) (by kernel_rfl) ?_ AllReadyH.nil
        refine Has_any wa.heap.size w1.heap.size wa.heap.size w1.heap.size l4 h4 rc _ _ l _ x _ wq1 (Sl.below (Sl.below Hyc.out Strs.loc HA24.out (by omega)) Strs.loc hHeld (by omega)) (by have := hHeld.size; omega) (Sl.below (Sl.below Hyl.out rowE_loc HA24.out (by omega)) rowE_loc hHeld (by omega)) (by have := hHeld.size; omega) (Sl.below (Sl.below Hx.out Row1.loc HA24.out (by omega)) Row1.loc hHeld (by omega)) (by have := hHeld.size; omega) _ (fun wq2 hB => ?_)
        refine ⟨_, rfl, hHeld.trans (hB.mono hHeld.size), ?_⟩
        have hHeld2 := hHeld.trans (hB.mono hHeld.size)
        clear hHeld
        have hHeld := hHeld2
        clear hHeld2
        clear hB
        try simp only [Act.put, List.getElem_toArray, List.getElem_cons_succ, List.getElem_cons_zero, List.setIfInBounds_toArray, List.set_cons_zero, List.set_cons_succ]
        refine wpAnyH_ready (rs := [9]) (by kernel_rfl) (by simp) ?_
        refine allCall (f := 32) (args := #[.agg #[.slice ac rc.length cc, .slice av l.length cv2]]) rfl (by kernel_rfl) (by kernel_rfl) ?_ AllReadyH.nil
        refine ref_any _ _ _ _ _ _ wq2 _ (fun wq3 hB => ?_)
        refine ⟨_, rfl, hHeld.trans (hB.mono hHeld.size), ?_⟩
        have hHeld2 := hHeld.trans (hB.mono hHeld.size)
        clear hHeld
        have hHeld := hHeld2
        clear hHeld2
        clear hB
        try simp only [Act.put, List.getElem_toArray, List.getElem_cons_succ, List.getElem_cons_zero, List.setIfInBounds_toArray, List.set_cons_zero, List.set_cons_succ]
        refine wpAnyH_ready (rs := [11]) (by kernel_rfl) (by simp) ?_
        refine allCall (f := 40) (args := #[.agg #[.slice ac rc.length cc, .slice av l.length cv2], .slice ax x.length cx]) rfl (by kernel_rfl) (by kernel_rfl) ?_ AllReadyH.nil
        refine refHas_any lo hi lc hc l4 h4 rc _ _ l _ x _ wq3 (Sl.below (Sl.below Hrc.out Strs.loc HA24.out (by omega)) Strs.loc hHeld (by omega)) (by have := hHeld.size; omega) (Sl.below (Sl.below Hl.out rowE_loc HA24.out (by omega)) rowE_loc hHeld (by omega)) (by have := hHeld.size; omega) (Sl.below (Sl.below Hx.out Row1.loc HA24.out (by omega)) Row1.loc hHeld (by omega)) (by have := hHeld.size; omega) Hrs.out Hxs.out _ (fun wq4 hB => ?_)
        refine ⟨_, rfl, hHeld.trans (hB.mono hHeld.size), ?_⟩
        have hHeld2 := hHeld.trans (hB.mono hHeld.size)
        clear hHeld
        have hHeld := hHeld2
        clear hHeld2
        clear hB
        try simp only [Act.put, List.getElem_toArray, List.getElem_cons_succ, List.getElem_cons_zero, List.setIfInBounds_toArray, List.set_cons_zero, List.set_cons_succ]
        refine wpAnyH_take (i := 12) (v := .bool true) rfl (by kernel_rfl) (by kernel_rfl) (by kernel_rfl) (fun _ _ _ h => h) (Or.inl ⟨by rfl, ?_⟩) hHeld ?_
        · intro w' hSw; go_simp
        try simp only [Act.put, List.getElem_toArray, List.getElem_cons_succ, List.getElem_cons_zero, List.setIfInBounds_toArray, List.set_cons_zero, List.set_cons_succ]
        refine wpAnyH_take (i := 13) (v := .bool true) rfl (by kernel_rfl) (by kernel_rfl) (by kernel_rfl) (fun _ _ _ h => h) (Or.inl ⟨by rfl, ?_⟩) hHeld ?_
        · intro w' hSw; go_simp
        try simp only [Act.put, List.getElem_toArray, List.getElem_cons_succ, List.getElem_cons_zero, List.setIfInBounds_toArray, List.set_cons_zero, List.set_cons_succ]
        refine wpAnyH_take (i := 14) (v := .bool true) rfl (by kernel_rfl) (by kernel_rfl) (by kernel_rfl) (fun _ _ _ h => h) (Or.inl ⟨by rfl, ?_⟩) hHeld ?_
        · intro w' hSw; go_simp
        try simp only [Act.put, List.getElem_toArray, List.getElem_cons_succ, List.getElem_cons_zero, List.setIfInBounds_toArray, List.set_cons_zero, List.set_cons_succ]
        refine wpAnyH_take (i := 15) (v := .agg #[.slice ayc rc.length cyc, .slice ayl l.length cyl]) rfl (by kernel_rfl) (by kernel_rfl) (by kernel_rfl) (fun _ _ _ h => h) (Or.inl ⟨by rfl, ?_⟩) hHeld ?_
        · intro w' hSw; have kx := (Hby24.out.below hSw hlby).cells.runVar (P := Try.prog) (t := 34) (fun _ => by kernel_rfl) (fun _ => by kernel_rfl); obtain ⟨z0, z1⟩ := (Hby24.out.below hSw hlby).cells.c2; simp only [Nat.zero_add] at z1; go_simp
        try simp only [Act.put, List.getElem_toArray, List.getElem_cons_succ, List.getElem_cons_zero, List.setIfInBounds_toArray, List.set_cons_zero, List.set_cons_succ]
        refine wpAnyH_take (i := 16) (v := .agg #[.slice ac rc.length cc, .slice av l.length cv2]) rfl (by kernel_rfl) (by kernel_rfl) (by kernel_rfl) (fun _ _ _ h => h) (Or.inl ⟨by rfl, ?_⟩) hHeld ?_
        · intro w' hSw; have kx := (Hbr24.out.below hSw hlbr).cells.runVar (P := Try.prog) (t := 34) (fun _ => by kernel_rfl) (fun _ => by kernel_rfl); obtain ⟨z0, z1⟩ := (Hbr24.out.below hSw hlbr).cells.c2; simp only [Nat.zero_add] at z1; go_simp
        try simp only [Act.put, List.getElem_toArray, List.getElem_cons_succ, List.getElem_cons_zero, List.setIfInBounds_toArray, List.set_cons_zero, List.set_cons_succ]
        refine wpAnyH_ready (rs := [17]) (by kernel_rfl) (by simp) ?_
        refine allCall (f := 29) (args := #[.agg #[.slice ayc rc.length cyc, .slice ayl l.length cyl], .agg #[.slice ac rc.length cc, .slice av l.length cv2]]) rfl (by kernel_rfl) (by kernel_rfl) ?_ AllReadyH.nil
        refine lawSame_any wa.heap.size w1.heap.size lo hi wa.heap.size w1.heap.size lc hc rc l _ _ _ _ wq4 (Sl.below (Sl.below Hyc.out Strs.loc HA24.out (by omega)) Strs.loc hHeld (by omega)) (Sl.below (Sl.below Hrc.out Strs.loc HA24.out (by omega)) Strs.loc hHeld (by omega)) (Sl.below (Sl.below Hyl.out rowE_loc HA24.out (by omega)) rowE_loc hHeld (by omega)) (Sl.below (Sl.below Hl.out rowE_loc HA24.out (by omega)) rowE_loc hHeld (by omega)) (by have := hHeld.size; omega) (by have := hHeld.size; omega) (by have := hHeld.size; omega) (by have := hHeld.size; omega) Hrs.out _ (fun wq5 hB => ?_)
        refine ⟨_, rfl, hHeld.trans (hB.mono hHeld.size), ?_⟩
        have hHeld2 := hHeld.trans (hB.mono hHeld.size)
        clear hHeld
        have hHeld := hHeld2
        clear hHeld2
        clear hB
        try simp only [Act.put, List.getElem_toArray, List.getElem_cons_succ, List.getElem_cons_zero, List.setIfInBounds_toArray, List.set_cons_zero, List.set_cons_succ]
        refine wpAnyH_take (i := 18) (v := .bool true) rfl (by kernel_rfl) (by kernel_rfl) (by kernel_rfl) (fun _ _ _ h => h) (Or.inl ⟨by rfl, ?_⟩) hHeld ?_
        · intro w' hSw; go_simp
        try simp only [Act.put, List.getElem_toArray, List.getElem_cons_succ, List.getElem_cons_zero, List.setIfInBounds_toArray, List.set_cons_zero, List.set_cons_succ]
        refine wpAnyH_take (i := 19) (v := .bool true) rfl (by kernel_rfl) (by kernel_rfl) (by kernel_rfl) (fun _ _ _ h => h) (Or.inl ⟨by rfl, ?_⟩) hHeld ?_
        · intro w' hSw; go_simp
        try simp only [Act.put, List.getElem_toArray, List.getElem_cons_succ, List.getElem_cons_zero, List.setIfInBounds_toArray, List.set_cons_zero, List.set_cons_succ]
        have HH2 := Lib.hid hHeld
        refine wpAnyH_done (by kernel_rfl) ?_ _
        clear hHeld
        have hr := HR.out wq5 (HBw2.out.trans ((HA24.out.trans (HH2.out.mono (by omega))).mono (by omega)))
        go_wp2_with fail
        first | exact hr | exact fin hr rfl
end Go.Proofs.Ytpncblagjkbemaa
end

/- The law RowsMeets, walked. (Printed by meq.py, meq2.py, merf.py.) -/
section
namespace Go.Proofs.Ytpncblagjkbemaa
open Go.RowKit
set_option linter.unusedVariables false
set_option linter.unusedSimpArgs false
attribute [local go_sem ↓] Go.wp_at_zero Go.wp_at_succ

/-- A piece of code by way of what it leaves. -/
def viaP (Φ : Act → World → Prop) : Exit → Act → World → Prop
  | .normal, a, w => Φ a w
  | _, _, _ => False
theorem wp_via {P : Program} {c : Code} {Q : Exit → Act → World → Prop} {a : Act} {w : World} (Φ : Act → Act → World → Prop) (h1 : c.wp P (viaP (Φ a)) a w) (h2 : ∀ a' w', Φ a a' w' → Q .normal a' w') : c.wp P Q a w :=
  wp_mono h1 (fun e a w h => by cases e <;> first | exact h2 _ _ h | exact h.elim)
set_option maxRecDepth 100000 in
set_option maxHeartbeats 8000000 in
theorem RowsMeets_any (lo hi lc hc l3 h3 l4 h4 : Nat) (rc sc : List S) (ac as_ : Option Addr) (cc cs : Nat) (l m : List (List V)) (lv mv : Value) (w : World) (hrc : Strs lc hc w (.slice ac rc.length cc) rc) (hhc : hc ≤ w.heap.size) (hv : Rws lo hi w lv l) (hhi : hi ≤ w.heap.size) (hsc : Strs l3 h3 w (.slice as_ sc.length cs) sc) (hh3 : h3 ≤ w.heap.size) (hm : Rws l4 h4 w mv m) (hh4 : h4 ≤ w.heap.size)
    (hrs : ∀ x ∈ l, ∀ a ∈ x, a.s.length ≤ 9223372036854775807) (hms : ∀ x ∈ m, ∀ a ∈ x, a.s.length ≤ 9223372036854775807) (R : Ending → World → Prop)
    (hR : ∀ w', Below w.heap.size w w' → R (.returned (.bool true)) w') : Calls Try.prog 7 #[.agg #[.slice ac rc.length cc, lv], .agg #[.slice as_ sc.length cs, mv]] w R := by
  have HR := Lib.hid hR
  have Hl0 := Lib.hid hv
  have Hrc0 := Lib.hid hrc
  have Hsc0 := Lib.hid hsc
  have Hm0 := Lib.hid hm
  have Hrs := Lib.hid hrs
  have Hms := Lib.hid hms
  obtain ⟨av, cv2, rfl, -, -, -, -⟩ := hv.form
  obtain ⟨am, cm, rfl, -, -, -, -⟩ := hm.form
  clear hR hv hrc hsc hm hrs hms
  obtain ⟨wb, ewb⟩ : ∃ x, x = w.alloc (.cells #[.slice ac rc.length cc, .slice av l.length cv2] 34) := ⟨_, rfl⟩
  obtain ⟨wa, ewa⟩ : ∃ x, x = wb.alloc (.cells #[.slice as_ sc.length cs, .slice am m.length cm] 34) := ⟨_, rfl⟩
  have sb : wb.heap.size = w.heap.size + 1 := by rw [ewb]; simp
  have hB1 : Below w.heap.size w wb := by rw [ewb]; exact alloc_below _ _
  have hB2 : Below wb.heap.size wb wa := by rw [ewa]; exact alloc_below _ _
  have hb1 : Blk wb w.heap.size [.slice ac rc.length cc, .slice av l.length cv2] 34 := by rw [ewb]; exact Blk.new w [.slice ac rc.length cc, .slice av l.length cv2] _ rfl
  have hb2 : Blk wa (w.heap.size + 1) [.slice as_ sc.length cs, .slice am m.length cm] 34 := by rw [ewa]; exact Blk.new wb [.slice as_ sc.length cs, .slice am m.length cm] _ sb.symm
  have hb1 := hb1.below hB2 hb1.lt
  have hBa := hB1.trans (hB2.mono hB1.size)
  go_enter Try.func7, Try.ntmps7
  go_upto_region 1 with fail
  rw [← ewb, ← ewa]
  have HBa := Lib.hid hBa
  have Hba := Lib.hid hb1
  have Hbs0 := Lib.hid hb2
  have hza := hBa.size
  have hla := hb1.lt
  have hlas := hb2.lt
  clear ewb ewa sb hB1 hB2 hb1 hb2 hBa
  obtain ⟨c0, c1⟩ := (Hba.out).cells.c2
  simp only [Nat.zero_add] at c1
  obtain ⟨d0, d1⟩ := (Hbs0.out).cells.c2
  simp only [Nat.zero_add] at d1
  go_wp2_with fail
  refine great_any lo hi rc ac cc l _ wa (Sl.below Hl0.out rowE_loc HBa.out hhi) _ ?_
  cases hg : greatB rc l
  case true =>
    have hr := HR.out wa HBa.out
    clear hg
    go_wp2_with fail
    first | exact hr | exact fin hr rfl
  obtain ⟨hcl, hll, hxl⟩ := great_no hg
  have Hxl := Lib.hid hxl
  clear hg hxl
  go_wp2_with fail
  refine great_any l4 h4 sc as_ cs m _ wa (Sl.below Hm0.out rowE_loc HBa.out hh4) _ ?_
  cases hg : greatB sc m
  case true =>
    have hr := HR.out wa HBa.out
    clear hg
    go_wp2_with fail
    first | exact hr | exact fin hr rfl
  obtain ⟨hsl, hml, hxm⟩ := great_no hg
  have Hxm := Lib.hid hxm
  clear hg hxm
  go_wp2_with fail
  refine lawOwn_any lo hi lc hc rc ac cc l _ wa (Sl.below Hrc0.out Strs.loc HBa.out hhc) (by omega) (Sl.below Hl0.out rowE_loc HBa.out hhi) (by omega) (by omega) (by omega) (fun x hx => by have := Hxl.out x hx; omega) _ (fun w1 ycv ylv hB1 hyc hyl => ?_)
  have HB1 := Lib.hid hB1
  have Hyc1 := Lib.hid hyc
  have Hyl1 := Lib.hid hyl
  have hz1 := hB1.size
  obtain ⟨ayc, cyc, rfl, -, -, -, -⟩ := hyc.form
  obtain ⟨ayl, cyl, rfl, -, -, -, -⟩ := hyl.form
  clear hB1 hyc hyl c0 c1 d0 d1
  go_upto_region 4 with fail
  have hBa := alloc_below w1 (.cells #[.slice ayc rc.length cyc, .slice ayl l.length cyl] 34)
  have hba := Blk.new w1 [.slice ayc rc.length cyc, .slice ayl l.length cyl] 34 rfl
  generalize w1.alloc (.cells #[.slice ayc rc.length cyc, .slice ayl l.length cyl] 34) = w2 at *
  have Hby2 := Lib.hid hba
  have hz2 := hBa.size
  have hby := hba.lt
  have HBa2 := Lib.hid (HB1.out.trans (hBa.mono hz1))
  have HBw2 := Lib.hid (HBa.out.trans (HBa2.out.mono hza))
  have Hyc2 := Lib.hid (Sl.below Hyc1.out Strs.loc hBa (Nat.le_refl _))
  have Hyl2 := Lib.hid (Sl.below Hyl1.out rowE_loc hBa (Nat.le_refl _))
  clear hBa hba Hyc1 Hyl1 HB1
  obtain ⟨d0, d1⟩ := (Hbs0.out.below HBa2.out hlas).cells.c2
  simp only [Nat.zero_add] at d1
  go_wp2_with fail
  refine lawOwn_any l4 h4 l3 h3 sc as_ cs m _ w2 (Sl.below Hsc0.out Strs.loc HBw2.out hh3) (by omega) (Sl.below Hm0.out rowE_loc HBw2.out hh4) (by omega) (by omega) (by omega) (fun x hx => by have := Hxm.out x hx; omega) _ (fun w3 zcv zlv hB1 hyc hyl => ?_)
  have HB23 := Lib.hid hB1
  have Hzc1 := Lib.hid hyc
  have Hzl1 := Lib.hid hyl
  have hz3 := hB1.size
  obtain ⟨azc, czc, rfl, -, -, -, -⟩ := hyc.form
  obtain ⟨azl, czl, rfl, -, -, -, -⟩ := hyl.form
  clear hB1 hyc hyl d0 d1
  go_upto_region 5 with fail
  have hBa := alloc_below w3 (.cells #[.slice azc sc.length czc, .slice azl m.length czl] 34)
  have hba := Blk.new w3 [.slice azc sc.length czc, .slice azl m.length czl] 34 rfl
  generalize w3.alloc (.cells #[.slice azc sc.length czc, .slice azl m.length czl] 34) = w4 at *
  have Hbz := Lib.hid hba
  have hz4 := hBa.size
  have hbz := hba.lt
  have HB24 := Lib.hid (HB23.out.trans (hBa.mono hz3))
  have HBw4 := Lib.hid (HBw2.out.trans (HB24.out.mono (by omega)))
  have HBa4 := Lib.hid (HBa2.out.trans (HB24.out.mono (by omega)))
  have Hby := Lib.hid (Hby2.out.below HB24.out hby)
  have Hyc := Lib.hid (Sl.below Hyc2.out Strs.loc HB24.out (by omega))
  have Hyl := Lib.hid (Sl.below Hyl2.out rowE_loc HB24.out (by omega))
  have Hzc := Lib.hid (Sl.below Hzc1.out Strs.loc hBa (Nat.le_refl _))
  have Hzl := Lib.hid (Sl.below Hzl1.out rowE_loc hBa (Nat.le_refl _))
  have Hrc := Lib.hid (Sl.below Hrc0.out Strs.loc HBw4.out hhc)
  have Hl := Lib.hid (Sl.below Hl0.out rowE_loc HBw4.out hhi)
  have Hsc := Lib.hid (Sl.below Hsc0.out Strs.loc HBw4.out hh3)
  have Hm := Lib.hid (Sl.below Hm0.out rowE_loc HBw4.out hh4)
  have Hbr := Lib.hid (Hba.out.below HBa4.out hla)
  have Hbs := Lib.hid (Hbs0.out.below HBa4.out hlas)
  clear hBa hba Hyc2 Hyl2 Hzc1 Hzl1 Hrc0 Hl0 Hsc0 Hm0 Hba Hbs0 HBa HBa2 HBa4 HBw2 HB23 HB24 Hby2
  have hr4 : w.heap.size + 1 < w4.heap.size := by omega
  have hy4 : w1.heap.size < w4.heap.size := by omega
  have hprod : l.length * m.length < 100000 := Nat.lt_of_le_of_lt (Nat.mul_le_mul hll hml) (by decide)
  have HA4 : Hid (Below w4.heap.size w4 w4) := Lib.hid (Below.refl _ _)
  obtain ⟨oc1, hoc1⟩ : ∃ oc, okL (joinErr rc l sc m) (joinCols rc sc) = oc := ⟨_, rfl⟩
  obtain ⟨ol1, hol1⟩ : ∃ ol, okL (joinErr rc l sc m) (relCanon (joinL rc l sc m)) = ol := ⟨_, rfl⟩
  have Hos1 : Hid (∀ x ∈ ol1, ∀ a ∈ x, a.s.length ≤ 9223372036854775807) := Lib.hid (fun x hx => by
    have h1 := relCanon_mem (okL_mem (by rw [hol1]; exact hx))
    obtain ⟨a, ha, hx⟩ := List.mem_flatMap.1 h1
    obtain ⟨y, hy, rfl⟩ := List.mem_map.1 hx
    intro z hz
    rcases List.mem_append.1 hz with hz | hz
    · exact Hrs.out a ha z hz
    · exact pick_str (Hms.out y (List.mem_filter.1 hy).1) z hz)
  obtain ⟨c0, c1⟩ := ((Hby.out.below HA4.out hy4)).cells.c2
  simp only [Nat.zero_add] at c1
  obtain ⟨d0, d1⟩ := ((Hbz.out.below HA4.out hbz)).cells.c2
  simp only [Nat.zero_add] at d1
  go_wp2_with fail
  refine Join_any wa.heap.size w1.heap.size wa.heap.size w1.heap.size w2.heap.size w3.heap.size w2.heap.size w3.heap.size rc sc _ _ _ _ l m _ _ w4 Hyc.out (by omega) Hyl.out (by omega) Hzc.out (by omega) Hzl.out (by omega) hprod _ (fun w5 cv3 lv3 hs3 hB3 hT3 hR3 => ?_)
  rw [hoc1] at hT3
  rw [hol1] at hR3
  obtain ⟨p3, q3, rfl⟩ := Own.slice hT3
  obtain ⟨p4, q4, e4⟩ := Own.slice hR3.own
  rw [hR3.len] at e4
  subst e4
  have HA5 := Lib.hid hB3
  have hz5 := hB3.size
  clear c0 c1 d0 d1
  go_upto_region 6 with fail
  have hBa := alloc_below w5 (.cells #[.slice p3 oc1.length q3, .slice p4 ol1.length q4] 34)
  have hba := Blk.new w5 [.slice p3 oc1.length q3, .slice p4 ol1.length q4] 34 rfl
  have hT6 := Own.kept hT3 hBa
  have hR6 := OwnR.kept hR3 hBa
  generalize w5.alloc (.cells #[.slice p3 oc1.length q3, .slice p4 ol1.length q4] 34) = w6 at *
  have HA6 := Lib.hid (HA5.out.trans (hBa.mono (by omega)))
  have Hb8 := Lib.hid hba
  have HT6 := Lib.hid hT6
  have HR6 := Lib.hid hR6
  have hz6 := hBa.size
  have hl8 := hba.lt
  obtain ⟨b8, eb8⟩ : ∃ b8, b8 = w5.heap.size := ⟨_, rfl⟩
  rw [← eb8] at Hb8 hl8 ⊢
  have h4b8 : w4.heap.size ≤ b8 := by omega
  clear hBa hba hT3 hR3 hT6 hR6 hB3 eb8
  refine wp_via (fun a0 a' w' => ∃ (b10 : Nat) (wr : World) (cv6 lv6 : Value), w4.heap.size ≤ b10 ∧ b10 ≠ b8 ∧ Below w6.heap.size w6 w' ∧ wr.heap.size ≤ w'.heap.size ∧ w6.heap.size ≤ wr.heap.size ∧ Blk w' b10 [cv6, lv6] 53 ∧ (∃ p c, cv6 = .slice p oc1.length c) ∧ (∃ p c, lv6 = .slice p ol1.length c) ∧ (∃ lo1 hi1 lo2 hi2, hi1 ≤ w'.heap.size ∧ hi2 ≤ w'.heap.size ∧ w4.heap.size ≤ lo1 ∧ w4.heap.size ≤ lo2 ∧ (hi1 ≤ b10 ∨ b10 < lo1) ∧ (hi2 ≤ b10 ∨ b10 < lo2) ∧ Strs lo1 hi1 w' cv6 oc1 ∧ Rws lo2 hi2 w' lv6 ol1) ∧
    ∃ u33 u34 u35 u36 u37 u38 u39 u40 : Value, a' = (((((((((a0.put (some 33) u33).put (some 34) u34).put (some 35) u35).put (some 36) u36).put (some 37) u37).put (some 38) u38).put (some 39) u39).put (some 40) u40).put (some 9) (.pointer (some ⟨b10, 0, none⟩))).put (some 10) (.int .i64 (joinErr rc l sc m))) ?via6 ?_
  case via6 =>
    have hr4' : w.heap.size < w4.heap.size := by omega
    have hS0 : Below w6.heap.size w6 w6.drew := (Below.refl _ _).drew
    refine wp_region_held_drew (S := fun w' => Below w6.heap.size w6 w') (by kernel_rfl) hS0 (fun hHeld => ?_)
    clear hS0
    generalize w6.drew = wd at *
    refine wpAnyH_take (i := 0) (v := .agg #[.slice ac rc.length cc, .slice av l.length cv2]) rfl (by kernel_rfl) (by kernel_rfl) (by kernel_rfl) (fun _ _ _ h => h) (Or.inl ⟨by rfl, ?_⟩) hHeld ?_
    · intro w' hSw; obtain ⟨z0, z1⟩ := ((Hbr.out.below HA6.out hr4').below hSw (by omega)).cells.c2; simp only [Nat.zero_add] at z1; go_simp
    try simp only [Act.put, List.getElem_toArray, List.getElem_cons_succ, List.getElem_cons_zero, List.setIfInBounds_toArray, List.set_cons_zero, List.set_cons_succ]
    refine wpAnyH_take (i := 2) (v := .agg #[.slice as_ sc.length cs, .slice am m.length cm]) rfl (by kernel_rfl) (by kernel_rfl) (by kernel_rfl) (fun _ _ _ h => h) (Or.inl ⟨by rfl, ?_⟩) hHeld ?_
    · intro w' hSw; obtain ⟨z0, z1⟩ := ((Hbs.out.below HA6.out hr4).below hSw (by omega)).cells.c2; simp only [Nat.zero_add] at z1; go_simp
    try simp only [Act.put, List.getElem_toArray, List.getElem_cons_succ, List.getElem_cons_zero, List.setIfInBounds_toArray, List.set_cons_zero, List.set_cons_succ]
    refine wpAnyH_ready (rs := [1, 8]) (by kernel_rfl) (by simp) ?_
    refine allCall (f := 32) (args := #[.agg #[.slice ac rc.length cc, .slice av l.length cv2]]) rfl (by kernel_rfl) (by kernel_rfl) ?_ ?_
    · refine ref_any _ _ _ _ _ _ wd _ (fun wq1 hB => ?_)
      refine ⟨_, rfl, hHeld.trans (hB.mono hHeld.size), ?_⟩
      have hHeld2 := hHeld.trans (hB.mono hHeld.size)
      clear hHeld
      have hHeld := hHeld2
      clear hHeld2
      clear hB
      try simp only [Act.put, List.getElem_toArray, List.getElem_cons_succ, List.getElem_cons_zero, List.setIfInBounds_toArray, List.set_cons_zero, List.set_cons_succ]
      refine wpAnyH_ready (rs := [3, 8]) (by kernel_rfl) (by simp) ?_
      refine allCall (f := 32) (args := #[.agg #[.slice as_ sc.length cs, .slice am m.length cm]]) rfl (by kernel_rfl) (by kernel_rfl) ?_ ?_
      · refine ref_any _ _ _ _ _ _ wq1 _ (fun wq2 hB => ?_)
        refine ⟨_, rfl, hHeld.trans (hB.mono hHeld.size), ?_⟩
        have hHeld2 := hHeld.trans (hB.mono hHeld.size)
        clear hHeld
        have hHeld := hHeld2
        clear hHeld2
        clear hB
        try simp only [Act.put, List.getElem_toArray, List.getElem_cons_succ, List.getElem_cons_zero, List.setIfInBounds_toArray, List.set_cons_zero, List.set_cons_succ]
        refine wpAnyH_ready (rs := [4, 8]) (by kernel_rfl) (by simp) ?_
        refine allCall (f := 42) (args := #[.agg #[.slice ac rc.length cc, .slice av l.length cv2], .agg #[.slice as_ sc.length cs, .slice am m.length cm]]) rfl (by kernel_rfl) (by kernel_rfl) ?_ ?_
        · have hzW := hHeld.size
          refine refJoin_any lc hc lo hi l3 h3 l4 h4 rc sc _ _ _ _ l m _ _ wq2 (Sl.below (Sl.below Hrc.out Strs.loc HA6.out (by omega)) Strs.loc hHeld (by omega)) (by omega) (Sl.below (Sl.below Hl.out rowE_loc HA6.out (by omega)) rowE_loc hHeld (by omega)) (by omega) (Sl.below (Sl.below Hsc.out Strs.loc HA6.out (by omega)) Strs.loc hHeld (by omega)) (by omega) (Sl.below (Sl.below Hm.out rowE_loc HA6.out (by omega)) rowE_loc hHeld (by omega)) (by omega) Hrs.out Hms.out (by omega) (by omega) _ (fun wq3 cv6 lv6 hB hT6 hR6 => ?_)
          refine ⟨_, rfl, hHeld.trans (hB.mono hHeld.size), ?_⟩
          rw [hoc1] at hT6
          rw [hol1] at hR6
          have hloW : wq2.heap.size ≤ wq3.heap.size := hB.size
          obtain ⟨p5, q5, rfl, -, -, -, -⟩ := hT6.form
          obtain ⟨p6, q6, rfl, -, -, -, -⟩ := hR6.form
          have hHeld2 := hHeld.trans (hB.mono hHeld.size)
          clear hHeld
          have hHeld := hHeld2
          clear hHeld2
          clear hB
          try simp only [Act.put, List.getElem_toArray, List.getElem_cons_succ, List.getElem_cons_zero, List.setIfInBounds_toArray, List.set_cons_zero, List.set_cons_succ]
          refine wpAnyH_take (i := 5) (v := .tuple #[.agg #[.slice p5 oc1.length q5, .slice p6 ol1.length q6], .int .i64 ((joinErr rc l sc m))]) rfl (by kernel_rfl) (by kernel_rfl) (by kernel_rfl) (fun _ _ _ h => h) (Or.inl ⟨by rfl, ?_⟩) hHeld ?_
          · intro w' hSw; go_simp
          try simp only [Act.put, List.getElem_toArray, List.getElem_cons_succ, List.getElem_cons_zero, List.setIfInBounds_toArray, List.set_cons_zero, List.set_cons_succ]
          refine wpAnyH_take (i := 6) (v := .agg #[.slice p5 oc1.length q5, .slice p6 ol1.length q6]) rfl (by kernel_rfl) (by kernel_rfl) (by kernel_rfl) (fun _ _ _ h => h) (Or.inl ⟨by rfl, ?_⟩) hHeld ?_
          · intro w' hSw; go_simp
          try simp only [Act.put, List.getElem_toArray, List.getElem_cons_succ, List.getElem_cons_zero, List.setIfInBounds_toArray, List.set_cons_zero, List.set_cons_succ]
          refine wpAnyH_take (i := 7) (v := .int .i64 ((joinErr rc l sc m))) rfl (by kernel_rfl) (by kernel_rfl) (by kernel_rfl) (fun _ _ _ h => h) (Or.inl ⟨by rfl, ?_⟩) hHeld ?_
          · intro w' hSw; go_simp
          try simp only [Act.put, List.getElem_toArray, List.getElem_cons_succ, List.getElem_cons_zero, List.setIfInBounds_toArray, List.set_cons_zero, List.set_cons_succ]
          refine wpAnyH_ready (rs := [8]) (by kernel_rfl) (by simp) ?_
          refine allVal (v := .pointer (some ⟨wq3.heap.size, 0, none⟩)) (w' := wq3.alloc (.cells #[.slice none 0 0, .slice none 0 0] 53)) rfl (by kernel_rfl) (by go_simp) (hHeld.alloc hHeld.size _) ?_ AllReadyH.nil
          try simp only [Act.put, List.getElem_toArray, List.getElem_cons_succ, List.getElem_cons_zero, List.setIfInBounds_toArray, List.set_cons_zero, List.set_cons_succ]
          have hHeld2 := hHeld.alloc hHeld.size (.cells #[.slice none 0 0, .slice none 0 0] 53)
          have hbk := Blk.new wq3 [.slice none 0 0, .slice none 0 0] 53 rfl
          obtain ⟨b10, eb10⟩ : ∃ b, b = wq3.heap.size := ⟨_, rfl⟩
          have h6b : w6.heap.size ≤ b10 := by rw [eb10]; exact hHeld.size
          have hWb : wq3.heap.size ≤ b10 := by omega
          have hal := alloc_below wq3 (.cells #[.slice none 0 0, .slice none 0 0] 53)
          have hT7 := Sl.below hT6 Strs.loc hal (Nat.le_refl _)
          have hR7 := Sl.below hR6 rowE_loc hal (Nat.le_refl _)
          clear hT6 hR6
          have hT6 := hT7
          have hR6 := hR7
          clear hT7 hR7
          generalize wq3.alloc (.cells #[.slice none 0 0, .slice none 0 0] 53) = wz at *
          rw [← eb10] at hbk ⊢
          have hbl := hbk.lt
          have Hbk := Lib.hid hbk
          clear hHeld hbk hal eb10
          have hHeld := hHeld2
          clear hHeld2
          refine wpAnyH_ready (rs := [9]) (by kernel_rfl) (by simp) ?_
          have hS1 := (hHeld.setCell (p := ⟨b10, 0, none⟩) h6b (.slice p5 oc1.length q5)).setCell (p := ⟨b10, 1, none⟩) h6b (.slice p6 ol1.length q6)
          refine allSkip (w' := (wz.setCell ⟨b10, 0, none⟩ (.slice p5 oc1.length q5)).setCell ⟨b10, 1, none⟩ (.slice p6 ol1.length q6)) rfl (by kernel_rfl) (by obtain ⟨e0, e1⟩ := Hbk.out.cells.c2; simp only [Nat.zero_add] at e1; have f0 := Hbk.out.free 0; have f1 := Hbk.out.free 1; go_simp) hS1 ?_ AllReadyH.nil
          have hHeld := hS1
          try simp only [Act.put, List.getElem_toArray, List.getElem_cons_succ, List.getElem_cons_zero, List.setIfInBounds_toArray, List.set_cons_zero, List.set_cons_succ]
          refine wpAnyH_take (i := 10) (v := .int .i64 (joinErr rc l sc m)) rfl (by kernel_rfl) (by kernel_rfl) (by kernel_rfl) (fun _ _ _ h => h) (Or.inl ⟨by rfl, ?_⟩) hHeld ?_
          · intro w' hSw; go_simp
          try simp only [Act.put, List.getElem_toArray, List.getElem_cons_succ, List.getElem_cons_zero, List.setIfInBounds_toArray, List.set_cons_zero, List.set_cons_succ]
          refine wpAnyH_done (by kernel_rfl) ?_ _
          have hsz : ((wz.setCell ⟨b10, 0, none⟩ (.slice p5 oc1.length q5)).setCell ⟨b10, 1, none⟩ (.slice p6 ol1.length q6)).heap.size = wz.heap.size := by simp
          exact ⟨b10, w6, .slice p5 oc1.length q5, .slice p6 ol1.length q6, by omega, by omega, hS1, hS1.size, Nat.le_refl _, (Hbk.out.set 0 _).set 1 _, ⟨_, _, rfl⟩, ⟨_, _, rfl⟩, ⟨wq2.heap.size, wq3.heap.size, wq2.heap.size, wq3.heap.size, by omega, by omega, by omega, by omega, by omega, by omega, Sl.agree hT6 Strs.loc (agree2Set wz (b := b10) (by omega) _ _), Sl.agree hR6 rowE_loc (agree2Set wz (b := b10) (by omega) _ _)⟩, _, _, _, _, _, _, _, _, rfl⟩
        refine allVal (v := .pointer (some ⟨wq2.heap.size, 0, none⟩)) (w' := wq2.alloc (.cells #[.slice none 0 0, .slice none 0 0] 53)) rfl (by kernel_rfl) (by go_simp) (hHeld.alloc hHeld.size _) ?_ AllReadyH.nil
        try simp only [Act.put, List.getElem_toArray, List.getElem_cons_succ, List.getElem_cons_zero, List.setIfInBounds_toArray, List.set_cons_zero, List.set_cons_succ]
        have hHeld2 := hHeld.alloc hHeld.size (.cells #[.slice none 0 0, .slice none 0 0] 53)
        have hbk := Blk.new wq2 [.slice none 0 0, .slice none 0 0] 53 rfl
        obtain ⟨b10, eb10⟩ : ∃ b, b = wq2.heap.size := ⟨_, rfl⟩
        have h6b : w6.heap.size ≤ b10 := by rw [eb10]; exact hHeld.size
        have hWb : wq2.heap.size ≤ b10 := by omega
        have hal := alloc_below wq2 (.cells #[.slice none 0 0, .slice none 0 0] 53)
        generalize wq2.alloc (.cells #[.slice none 0 0, .slice none 0 0] 53) = wl4 at *
        rw [← eb10] at hbk ⊢
        have hbl := hbk.lt
        have Hbk := Lib.hid hbk
        clear hHeld hbk hal eb10
        have hHeld := hHeld2
        clear hHeld2
        refine wpAnyH_ready (rs := [4]) (by kernel_rfl) (by simp) ?_
        refine allCall (f := 42) (args := #[.agg #[.slice ac rc.length cc, .slice av l.length cv2], .agg #[.slice as_ sc.length cs, .slice am m.length cm]]) rfl (by kernel_rfl) (by kernel_rfl) ?_ AllReadyH.nil
        have hzW := hHeld.size
        refine refJoin_any lc hc lo hi l3 h3 l4 h4 rc sc _ _ _ _ l m _ _ wl4 (Sl.below (Sl.below Hrc.out Strs.loc HA6.out (by omega)) Strs.loc hHeld (by omega)) (by omega) (Sl.below (Sl.below Hl.out rowE_loc HA6.out (by omega)) rowE_loc hHeld (by omega)) (by omega) (Sl.below (Sl.below Hsc.out Strs.loc HA6.out (by omega)) Strs.loc hHeld (by omega)) (by omega) (Sl.below (Sl.below Hm.out rowE_loc HA6.out (by omega)) rowE_loc hHeld (by omega)) (by omega) Hrs.out Hms.out (by omega) (by omega) _ (fun wq5 cv6 lv6 hB hT6 hR6 => ?_)
        refine ⟨_, rfl, hHeld.trans (hB.mono hHeld.size), ?_⟩
        rw [hoc1] at hT6
        rw [hol1] at hR6
        have hloW : wl4.heap.size ≤ wq5.heap.size := hB.size
        obtain ⟨p5, q5, rfl, -, -, -, -⟩ := hT6.form
        obtain ⟨p6, q6, rfl, -, -, -, -⟩ := hR6.form
        have hbW := Hbk.out.lt
        have Hbk2 := Lib.hid (Hbk.out.below hB Hbk.out.lt)
        clear Hbk hbl
        have Hbk := Lib.hid Hbk2.out
        have hbl := Hbk.out.lt
        clear Hbk2
        have hHeld2 := hHeld.trans (hB.mono hHeld.size)
        clear hHeld
        have hHeld := hHeld2
        clear hHeld2
        clear hB
        try simp only [Act.put, List.getElem_toArray, List.getElem_cons_succ, List.getElem_cons_zero, List.setIfInBounds_toArray, List.set_cons_zero, List.set_cons_succ]
        refine wpAnyH_take (i := 5) (v := .tuple #[.agg #[.slice p5 oc1.length q5, .slice p6 ol1.length q6], .int .i64 ((joinErr rc l sc m))]) rfl (by kernel_rfl) (by kernel_rfl) (by kernel_rfl) (fun _ _ _ h => h) (Or.inl ⟨by rfl, ?_⟩) hHeld ?_
        · intro w' hSw; go_simp
        try simp only [Act.put, List.getElem_toArray, List.getElem_cons_succ, List.getElem_cons_zero, List.setIfInBounds_toArray, List.set_cons_zero, List.set_cons_succ]
        refine wpAnyH_take (i := 6) (v := .agg #[.slice p5 oc1.length q5, .slice p6 ol1.length q6]) rfl (by kernel_rfl) (by kernel_rfl) (by kernel_rfl) (fun _ _ _ h => h) (Or.inl ⟨by rfl, ?_⟩) hHeld ?_
        · intro w' hSw; go_simp
        try simp only [Act.put, List.getElem_toArray, List.getElem_cons_succ, List.getElem_cons_zero, List.setIfInBounds_toArray, List.set_cons_zero, List.set_cons_succ]
        refine wpAnyH_take (i := 7) (v := .int .i64 ((joinErr rc l sc m))) rfl (by kernel_rfl) (by kernel_rfl) (by kernel_rfl) (fun _ _ _ h => h) (Or.inl ⟨by rfl, ?_⟩) hHeld ?_
        · intro w' hSw; go_simp
        try simp only [Act.put, List.getElem_toArray, List.getElem_cons_succ, List.getElem_cons_zero, List.setIfInBounds_toArray, List.set_cons_zero, List.set_cons_succ]
        refine wpAnyH_ready (rs := [9]) (by kernel_rfl) (by simp) ?_
        have hS1 := (hHeld.setCell (p := ⟨b10, 0, none⟩) h6b (.slice p5 oc1.length q5)).setCell (p := ⟨b10, 1, none⟩) h6b (.slice p6 ol1.length q6)
        refine allSkip (w' := (wq5.setCell ⟨b10, 0, none⟩ (.slice p5 oc1.length q5)).setCell ⟨b10, 1, none⟩ (.slice p6 ol1.length q6)) rfl (by kernel_rfl) (by obtain ⟨e0, e1⟩ := Hbk.out.cells.c2; simp only [Nat.zero_add] at e1; have f0 := Hbk.out.free 0; have f1 := Hbk.out.free 1; go_simp) hS1 ?_ AllReadyH.nil
        have hHeld := hS1
        try simp only [Act.put, List.getElem_toArray, List.getElem_cons_succ, List.getElem_cons_zero, List.setIfInBounds_toArray, List.set_cons_zero, List.set_cons_succ]
        refine wpAnyH_take (i := 10) (v := .int .i64 (joinErr rc l sc m)) rfl (by kernel_rfl) (by kernel_rfl) (by kernel_rfl) (fun _ _ _ h => h) (Or.inl ⟨by rfl, ?_⟩) hHeld ?_
        · intro w' hSw; go_simp
        try simp only [Act.put, List.getElem_toArray, List.getElem_cons_succ, List.getElem_cons_zero, List.setIfInBounds_toArray, List.set_cons_zero, List.set_cons_succ]
        refine wpAnyH_done (by kernel_rfl) ?_ _
        have hsz : ((wq5.setCell ⟨b10, 0, none⟩ (.slice p5 oc1.length q5)).setCell ⟨b10, 1, none⟩ (.slice p6 ol1.length q6)).heap.size = wq5.heap.size := by simp
        exact ⟨b10, w6, .slice p5 oc1.length q5, .slice p6 ol1.length q6, by omega, by omega, hS1, hS1.size, Nat.le_refl _, (Hbk.out.set 0 _).set 1 _, ⟨_, _, rfl⟩, ⟨_, _, rfl⟩, ⟨wl4.heap.size, wq5.heap.size, wl4.heap.size, wq5.heap.size, by omega, by omega, by omega, by omega, by omega, by omega, Sl.agree hT6 Strs.loc (agree2Set wq5 (b := b10) (by omega) _ _), Sl.agree hR6 rowE_loc (agree2Set wq5 (b := b10) (by omega) _ _)⟩, _, _, _, _, _, _, _, _, rfl⟩
      refine allVal (v := .pointer (some ⟨wq1.heap.size, 0, none⟩)) (w' := wq1.alloc (.cells #[.slice none 0 0, .slice none 0 0] 53)) rfl (by kernel_rfl) (by go_simp) (hHeld.alloc hHeld.size _) ?_ AllReadyH.nil
      try simp only [Act.put, List.getElem_toArray, List.getElem_cons_succ, List.getElem_cons_zero, List.setIfInBounds_toArray, List.set_cons_zero, List.set_cons_succ]
      have hHeld2 := hHeld.alloc hHeld.size (.cells #[.slice none 0 0, .slice none 0 0] 53)
      have hbk := Blk.new wq1 [.slice none 0 0, .slice none 0 0] 53 rfl
      obtain ⟨b10, eb10⟩ : ∃ b, b = wq1.heap.size := ⟨_, rfl⟩
      have h6b : w6.heap.size ≤ b10 := by rw [eb10]; exact hHeld.size
      have hWb : wq1.heap.size ≤ b10 := by omega
      have hal := alloc_below wq1 (.cells #[.slice none 0 0, .slice none 0 0] 53)
      generalize wq1.alloc (.cells #[.slice none 0 0, .slice none 0 0] 53) = wl6 at *
      rw [← eb10] at hbk ⊢
      have hbl := hbk.lt
      have Hbk := Lib.hid hbk
      clear hHeld hbk hal eb10
      have hHeld := hHeld2
      clear hHeld2
      refine wpAnyH_ready (rs := [3]) (by kernel_rfl) (by simp) ?_
      refine allCall (f := 32) (args := #[.agg #[.slice as_ sc.length cs, .slice am m.length cm]]) rfl (by kernel_rfl) (by kernel_rfl) ?_ AllReadyH.nil
      refine ref_any _ _ _ _ _ _ wl6 _ (fun wq7 hB => ?_)
      refine ⟨_, rfl, hHeld.trans (hB.mono hHeld.size), ?_⟩
      have Hbk2 := Lib.hid (Hbk.out.below hB Hbk.out.lt)
      clear Hbk hbl
      have Hbk := Lib.hid Hbk2.out
      have hbl := Hbk.out.lt
      clear Hbk2
      have hHeld2 := hHeld.trans (hB.mono hHeld.size)
      clear hHeld
      have hHeld := hHeld2
      clear hHeld2
      clear hB
      try simp only [Act.put, List.getElem_toArray, List.getElem_cons_succ, List.getElem_cons_zero, List.setIfInBounds_toArray, List.set_cons_zero, List.set_cons_succ]
      refine wpAnyH_ready (rs := [4]) (by kernel_rfl) (by simp) ?_
      refine allCall (f := 42) (args := #[.agg #[.slice ac rc.length cc, .slice av l.length cv2], .agg #[.slice as_ sc.length cs, .slice am m.length cm]]) rfl (by kernel_rfl) (by kernel_rfl) ?_ AllReadyH.nil
      have hzW := hHeld.size
      refine refJoin_any lc hc lo hi l3 h3 l4 h4 rc sc _ _ _ _ l m _ _ wq7 (Sl.below (Sl.below Hrc.out Strs.loc HA6.out (by omega)) Strs.loc hHeld (by omega)) (by omega) (Sl.below (Sl.below Hl.out rowE_loc HA6.out (by omega)) rowE_loc hHeld (by omega)) (by omega) (Sl.below (Sl.below Hsc.out Strs.loc HA6.out (by omega)) Strs.loc hHeld (by omega)) (by omega) (Sl.below (Sl.below Hm.out rowE_loc HA6.out (by omega)) rowE_loc hHeld (by omega)) (by omega) Hrs.out Hms.out (by omega) (by omega) _ (fun wq8 cv6 lv6 hB hT6 hR6 => ?_)
      refine ⟨_, rfl, hHeld.trans (hB.mono hHeld.size), ?_⟩
      rw [hoc1] at hT6
      rw [hol1] at hR6
      have hloW : wq7.heap.size ≤ wq8.heap.size := hB.size
      obtain ⟨p5, q5, rfl, -, -, -, -⟩ := hT6.form
      obtain ⟨p6, q6, rfl, -, -, -, -⟩ := hR6.form
      have hbW := Hbk.out.lt
      have Hbk2 := Lib.hid (Hbk.out.below hB Hbk.out.lt)
      clear Hbk hbl
      have Hbk := Lib.hid Hbk2.out
      have hbl := Hbk.out.lt
      clear Hbk2
      have hHeld2 := hHeld.trans (hB.mono hHeld.size)
      clear hHeld
      have hHeld := hHeld2
      clear hHeld2
      clear hB
      try simp only [Act.put, List.getElem_toArray, List.getElem_cons_succ, List.getElem_cons_zero, List.setIfInBounds_toArray, List.set_cons_zero, List.set_cons_succ]
      refine wpAnyH_take (i := 5) (v := .tuple #[.agg #[.slice p5 oc1.length q5, .slice p6 ol1.length q6], .int .i64 ((joinErr rc l sc m))]) rfl (by kernel_rfl) (by kernel_rfl) (by kernel_rfl) (fun _ _ _ h => h) (Or.inl ⟨by rfl, ?_⟩) hHeld ?_
      · intro w' hSw; go_simp
      try simp only [Act.put, List.getElem_toArray, List.getElem_cons_succ, List.getElem_cons_zero, List.setIfInBounds_toArray, List.set_cons_zero, List.set_cons_succ]
      refine wpAnyH_take (i := 6) (v := .agg #[.slice p5 oc1.length q5, .slice p6 ol1.length q6]) rfl (by kernel_rfl) (by kernel_rfl) (by kernel_rfl) (fun _ _ _ h => h) (Or.inl ⟨by rfl, ?_⟩) hHeld ?_
      · intro w' hSw; go_simp
      try simp only [Act.put, List.getElem_toArray, List.getElem_cons_succ, List.getElem_cons_zero, List.setIfInBounds_toArray, List.set_cons_zero, List.set_cons_succ]
      refine wpAnyH_take (i := 7) (v := .int .i64 ((joinErr rc l sc m))) rfl (by kernel_rfl) (by kernel_rfl) (by kernel_rfl) (fun _ _ _ h => h) (Or.inl ⟨by rfl, ?_⟩) hHeld ?_
      · intro w' hSw; go_simp
      try simp only [Act.put, List.getElem_toArray, List.getElem_cons_succ, List.getElem_cons_zero, List.setIfInBounds_toArray, List.set_cons_zero, List.set_cons_succ]
      refine wpAnyH_ready (rs := [9]) (by kernel_rfl) (by simp) ?_
      have hS1 := (hHeld.setCell (p := ⟨b10, 0, none⟩) h6b (.slice p5 oc1.length q5)).setCell (p := ⟨b10, 1, none⟩) h6b (.slice p6 ol1.length q6)
      refine allSkip (w' := (wq8.setCell ⟨b10, 0, none⟩ (.slice p5 oc1.length q5)).setCell ⟨b10, 1, none⟩ (.slice p6 ol1.length q6)) rfl (by kernel_rfl) (by obtain ⟨e0, e1⟩ := Hbk.out.cells.c2; simp only [Nat.zero_add] at e1; have f0 := Hbk.out.free 0; have f1 := Hbk.out.free 1; go_simp) hS1 ?_ AllReadyH.nil
      have hHeld := hS1
      try simp only [Act.put, List.getElem_toArray, List.getElem_cons_succ, List.getElem_cons_zero, List.setIfInBounds_toArray, List.set_cons_zero, List.set_cons_succ]
      refine wpAnyH_take (i := 10) (v := .int .i64 (joinErr rc l sc m)) rfl (by kernel_rfl) (by kernel_rfl) (by kernel_rfl) (fun _ _ _ h => h) (Or.inl ⟨by rfl, ?_⟩) hHeld ?_
      · intro w' hSw; go_simp
      try simp only [Act.put, List.getElem_toArray, List.getElem_cons_succ, List.getElem_cons_zero, List.setIfInBounds_toArray, List.set_cons_zero, List.set_cons_succ]
      refine wpAnyH_done (by kernel_rfl) ?_ _
      have hsz : ((wq8.setCell ⟨b10, 0, none⟩ (.slice p5 oc1.length q5)).setCell ⟨b10, 1, none⟩ (.slice p6 ol1.length q6)).heap.size = wq8.heap.size := by simp
      exact ⟨b10, w6, .slice p5 oc1.length q5, .slice p6 ol1.length q6, by omega, by omega, hS1, hS1.size, Nat.le_refl _, (Hbk.out.set 0 _).set 1 _, ⟨_, _, rfl⟩, ⟨_, _, rfl⟩, ⟨wq7.heap.size, wq8.heap.size, wq7.heap.size, wq8.heap.size, by omega, by omega, by omega, by omega, by omega, by omega, Sl.agree hT6 Strs.loc (agree2Set wq8 (b := b10) (by omega) _ _), Sl.agree hR6 rowE_loc (agree2Set wq8 (b := b10) (by omega) _ _)⟩, _, _, _, _, _, _, _, _, rfl⟩
    refine allVal (v := .pointer (some ⟨wd.heap.size, 0, none⟩)) (w' := wd.alloc (.cells #[.slice none 0 0, .slice none 0 0] 53)) rfl (by kernel_rfl) (by go_simp) (hHeld.alloc hHeld.size _) ?_ AllReadyH.nil
    try simp only [Act.put, List.getElem_toArray, List.getElem_cons_succ, List.getElem_cons_zero, List.setIfInBounds_toArray, List.set_cons_zero, List.set_cons_succ]
    have hHeld2 := hHeld.alloc hHeld.size (.cells #[.slice none 0 0, .slice none 0 0] 53)
    have hbk := Blk.new wd [.slice none 0 0, .slice none 0 0] 53 rfl
    obtain ⟨b10, eb10⟩ : ∃ b, b = wd.heap.size := ⟨_, rfl⟩
    have h6b : w6.heap.size ≤ b10 := by rw [eb10]; exact hHeld.size
    have hWb : wd.heap.size ≤ b10 := by omega
    have hal := alloc_below wd (.cells #[.slice none 0 0, .slice none 0 0] 53)
    generalize wd.alloc (.cells #[.slice none 0 0, .slice none 0 0] 53) = wl9 at *
    rw [← eb10] at hbk ⊢
    have hbl := hbk.lt
    have Hbk := Lib.hid hbk
    clear hHeld hbk hal eb10
    have hHeld := hHeld2
    clear hHeld2
    refine wpAnyH_ready (rs := [1]) (by kernel_rfl) (by simp) ?_
    refine allCall (f := 32) (args := #[.agg #[.slice ac rc.length cc, .slice av l.length cv2]]) rfl (by kernel_rfl) (by kernel_rfl) ?_ AllReadyH.nil
    refine ref_any _ _ _ _ _ _ wl9 _ (fun wq10 hB => ?_)
    refine ⟨_, rfl, hHeld.trans (hB.mono hHeld.size), ?_⟩
    have Hbk2 := Lib.hid (Hbk.out.below hB Hbk.out.lt)
    clear Hbk hbl
    have Hbk := Lib.hid Hbk2.out
    have hbl := Hbk.out.lt
    clear Hbk2
    have hHeld2 := hHeld.trans (hB.mono hHeld.size)
    clear hHeld
    have hHeld := hHeld2
    clear hHeld2
    clear hB
    try simp only [Act.put, List.getElem_toArray, List.getElem_cons_succ, List.getElem_cons_zero, List.setIfInBounds_toArray, List.set_cons_zero, List.set_cons_succ]
    refine wpAnyH_ready (rs := [3]) (by kernel_rfl) (by simp) ?_
    refine allCall (f := 32) (args := #[.agg #[.slice as_ sc.length cs, .slice am m.length cm]]) rfl (by kernel_rfl) (by kernel_rfl) ?_ AllReadyH.nil
    refine ref_any _ _ _ _ _ _ wq10 _ (fun wq11 hB => ?_)
    refine ⟨_, rfl, hHeld.trans (hB.mono hHeld.size), ?_⟩
    have Hbk2 := Lib.hid (Hbk.out.below hB Hbk.out.lt)
    clear Hbk hbl
    have Hbk := Lib.hid Hbk2.out
    have hbl := Hbk.out.lt
    clear Hbk2
    have hHeld2 := hHeld.trans (hB.mono hHeld.size)
    clear hHeld
    have hHeld := hHeld2
    clear hHeld2
    clear hB
    try simp only [Act.put, List.getElem_toArray, List.getElem_cons_succ, List.getElem_cons_zero, List.setIfInBounds_toArray, List.set_cons_zero, List.set_cons_succ]
    refine wpAnyH_ready (rs := [4]) (by kernel_rfl) (by simp) ?_
    refine allCall (f := 42) (args := #[.agg #[.slice ac rc.length cc, .slice av l.length cv2], .agg #[.slice as_ sc.length cs, .slice am m.length cm]]) rfl (by kernel_rfl) (by kernel_rfl) ?_ AllReadyH.nil
    have hzW := hHeld.size
    refine refJoin_any lc hc lo hi l3 h3 l4 h4 rc sc _ _ _ _ l m _ _ wq11 (Sl.below (Sl.below Hrc.out Strs.loc HA6.out (by omega)) Strs.loc hHeld (by omega)) (by omega) (Sl.below (Sl.below Hl.out rowE_loc HA6.out (by omega)) rowE_loc hHeld (by omega)) (by omega) (Sl.below (Sl.below Hsc.out Strs.loc HA6.out (by omega)) Strs.loc hHeld (by omega)) (by omega) (Sl.below (Sl.below Hm.out rowE_loc HA6.out (by omega)) rowE_loc hHeld (by omega)) (by omega) Hrs.out Hms.out (by omega) (by omega) _ (fun wq12 cv6 lv6 hB hT6 hR6 => ?_)
    refine ⟨_, rfl, hHeld.trans (hB.mono hHeld.size), ?_⟩
    rw [hoc1] at hT6
    rw [hol1] at hR6
    have hloW : wq11.heap.size ≤ wq12.heap.size := hB.size
    obtain ⟨p5, q5, rfl, -, -, -, -⟩ := hT6.form
    obtain ⟨p6, q6, rfl, -, -, -, -⟩ := hR6.form
    have hbW := Hbk.out.lt
    have Hbk2 := Lib.hid (Hbk.out.below hB Hbk.out.lt)
    clear Hbk hbl
    have Hbk := Lib.hid Hbk2.out
    have hbl := Hbk.out.lt
    clear Hbk2
    have hHeld2 := hHeld.trans (hB.mono hHeld.size)
    clear hHeld
    have hHeld := hHeld2
    clear hHeld2
    clear hB
    try simp only [Act.put, List.getElem_toArray, List.getElem_cons_succ, List.getElem_cons_zero, List.setIfInBounds_toArray, List.set_cons_zero, List.set_cons_succ]
    refine wpAnyH_take (i := 5) (v := .tuple #[.agg #[.slice p5 oc1.length q5, .slice p6 ol1.length q6], .int .i64 ((joinErr rc l sc m))]) rfl (by kernel_rfl) (by kernel_rfl) (by kernel_rfl) (fun _ _ _ h => h) (Or.inl ⟨by rfl, ?_⟩) hHeld ?_
    · intro w' hSw; go_simp
    try simp only [Act.put, List.getElem_toArray, List.getElem_cons_succ, List.getElem_cons_zero, List.setIfInBounds_toArray, List.set_cons_zero, List.set_cons_succ]
    refine wpAnyH_take (i := 6) (v := .agg #[.slice p5 oc1.length q5, .slice p6 ol1.length q6]) rfl (by kernel_rfl) (by kernel_rfl) (by kernel_rfl) (fun _ _ _ h => h) (Or.inl ⟨by rfl, ?_⟩) hHeld ?_
    · intro w' hSw; go_simp
    try simp only [Act.put, List.getElem_toArray, List.getElem_cons_succ, List.getElem_cons_zero, List.setIfInBounds_toArray, List.set_cons_zero, List.set_cons_succ]
    refine wpAnyH_take (i := 7) (v := .int .i64 ((joinErr rc l sc m))) rfl (by kernel_rfl) (by kernel_rfl) (by kernel_rfl) (fun _ _ _ h => h) (Or.inl ⟨by rfl, ?_⟩) hHeld ?_
    · intro w' hSw; go_simp
    try simp only [Act.put, List.getElem_toArray, List.getElem_cons_succ, List.getElem_cons_zero, List.setIfInBounds_toArray, List.set_cons_zero, List.set_cons_succ]
    refine wpAnyH_ready (rs := [9]) (by kernel_rfl) (by simp) ?_
    have hS1 := (hHeld.setCell (p := ⟨b10, 0, none⟩) h6b (.slice p5 oc1.length q5)).setCell (p := ⟨b10, 1, none⟩) h6b (.slice p6 ol1.length q6)
    refine allSkip (w' := (wq12.setCell ⟨b10, 0, none⟩ (.slice p5 oc1.length q5)).setCell ⟨b10, 1, none⟩ (.slice p6 ol1.length q6)) rfl (by kernel_rfl) (by obtain ⟨e0, e1⟩ := Hbk.out.cells.c2; simp only [Nat.zero_add] at e1; have f0 := Hbk.out.free 0; have f1 := Hbk.out.free 1; go_simp) hS1 ?_ AllReadyH.nil
    have hHeld := hS1
    try simp only [Act.put, List.getElem_toArray, List.getElem_cons_succ, List.getElem_cons_zero, List.setIfInBounds_toArray, List.set_cons_zero, List.set_cons_succ]
    refine wpAnyH_take (i := 10) (v := .int .i64 (joinErr rc l sc m)) rfl (by kernel_rfl) (by kernel_rfl) (by kernel_rfl) (fun _ _ _ h => h) (Or.inl ⟨by rfl, ?_⟩) hHeld ?_
    · intro w' hSw; go_simp
    try simp only [Act.put, List.getElem_toArray, List.getElem_cons_succ, List.getElem_cons_zero, List.setIfInBounds_toArray, List.set_cons_zero, List.set_cons_succ]
    refine wpAnyH_done (by kernel_rfl) ?_ _
    have hsz : ((wq12.setCell ⟨b10, 0, none⟩ (.slice p5 oc1.length q5)).setCell ⟨b10, 1, none⟩ (.slice p6 ol1.length q6)).heap.size = wq12.heap.size := by simp
    exact ⟨b10, w6, .slice p5 oc1.length q5, .slice p6 ol1.length q6, by omega, by omega, hS1, hS1.size, Nat.le_refl _, (Hbk.out.set 0 _).set 1 _, ⟨_, _, rfl⟩, ⟨_, _, rfl⟩, ⟨wq11.heap.size, wq12.heap.size, wq11.heap.size, wq12.heap.size, by omega, by omega, by omega, by omega, by omega, by omega, Sl.agree hT6 Strs.loc (agree2Set wq12 (b := b10) (by omega) _ _), Sl.agree hR6 rowE_loc (agree2Set wq12 (b := b10) (by omega) _ _)⟩, _, _, _, _, _, _, _, _, rfl⟩
  rintro a' w7 ⟨b10, wr, cv6, lv6, hv1, hv2, hv3, hv4, hv5, hv6, ⟨p5, q5, rfl⟩, ⟨p6, q6, rfl⟩, ⟨lo1, hi1, lo2, hi2, hw1, hw2, hw3, hw4, hw5, hw6, hT7, hR7⟩, u33, u34, u35, u36, u37, u38, u39, u40, rfl⟩
  try simp only [Act.put, List.getElem_toArray, List.getElem_cons_succ, List.getElem_cons_zero, List.setIfInBounds_toArray, List.set_cons_zero, List.set_cons_succ]
  have HA7 := Lib.hid (HA6.out.trans (hv3.mono (by omega)))
  have hz7 := hv3.size
  have Hb8_7 := Lib.hid (Hb8.out.below hv3 hl8)
  have Hb10_7 := Lib.hid hv6
  have HT7 := Lib.hid (Own.kept HT6.out hv3)
  have HR7 := Lib.hid (OwnR.kept HR6.out hv3)
  have h4b10 := hv1
  have hbne := hv2
  clear hv1 hv2 hv3 hv4 hv5 hv6 hw3 hw4 hw5 hw6
  obtain ⟨c0, c1⟩ := (Hb8_7.out).cells.c2
  simp only [Nat.zero_add] at c1
  obtain ⟨d0, d1⟩ := (Hb10_7.out).cells.c2
  simp only [Nat.zero_add] at d1
  go_wp2_with fail
  refine toldO_any w4.heap.size lo2 hi2 lo1 hi1 oc1 ol1 hs3 _ _ _ _ _ w7 (by omega) HT7.out hT7 HR7.out hR7 hw1 hw2 Hos1.out _ (fun w8 hB8 hO8 => ?_)
  have Hb8_8 := Lib.hid (hO8.blk Hb8_7.out (TB.not HT7.out HR7.out Hb8_7.out (by decide) (by decide)))
  have Hb10_8 := Lib.hid (hO8.blk Hb10_7.out (TB.not HT7.out HR7.out Hb10_7.out (by decide) (by decide)))
  have HA8 := Lib.hid (HA7.out.trans hB8)
  have hz8 := HA8.out.size
  clear hB8 hO8 c0 c1 d0 d1 HT7 HR7 hT7 hR7 HT6 HR6 Hb8_7 Hb10_7 Hb8 hw1 hw2 HA5 HA6 HA7 hoc1 hol1 Hos1 hz5 hz6 hz7 hl8
  obtain ⟨oc2, hoc2⟩ : ∃ oc, okL (orErr rc l sc m) rc = oc := ⟨_, rfl⟩
  obtain ⟨ol2, hol2⟩ : ∃ ol, okL (orErr rc l sc m) (relCanon (l ++ m.map fun x => pickL x (placesL rc sc))) = ol := ⟨_, rfl⟩
  have Hos2 : Hid (∀ x ∈ ol2, ∀ a ∈ x, a.s.length ≤ 9223372036854775807) := Lib.hid (fun x hx => by
    have h1 := relCanon_mem (okL_mem (by rw [hol2]; exact hx))
    rcases List.mem_append.1 h1 with h1 | h1
    · exact Hrs.out x h1
    · obtain ⟨y, hy, rfl⟩ := List.mem_map.1 h1
      exact pick_str (Hms.out y hy))
  obtain ⟨c0, c1⟩ := ((Hby.out.below HA8.out hy4)).cells.c2
  simp only [Nat.zero_add] at c1
  obtain ⟨d0, d1⟩ := ((Hbz.out.below HA8.out hbz)).cells.c2
  simp only [Nat.zero_add] at d1
  go_wp2_with fail
  refine Or_any wa.heap.size w1.heap.size wa.heap.size w1.heap.size w2.heap.size w3.heap.size w2.heap.size w3.heap.size rc sc _ _ _ _ l m _ _ w8 (Sl.below Hyc.out Strs.loc HA8.out (by omega)) (by omega) (Sl.below Hyl.out rowE_loc HA8.out (by omega)) (by omega) (Sl.below Hzc.out Strs.loc HA8.out (by omega)) (by omega) (Sl.below Hzl.out rowE_loc HA8.out (by omega)) (by omega) (by omega) _ (fun w9 cv3 lv3 hs3 hB3 hT3 hR3 => ?_)
  rw [hoc2] at hT3
  rw [hol2] at hR3
  obtain ⟨p3, q3, rfl⟩ := Own.slice hT3
  obtain ⟨p4, q4, e4⟩ := Own.slice hR3.own
  rw [hR3.len] at e4
  subst e4
  have HA9 := Lib.hid (HA8.out.trans (hB3.mono (by omega)))
  have hz9 := HA9.out.size
  have hb8 := Hb8_8.out.below hB3 Hb8_8.out.lt
  have hb10 := Hb10_8.out.below hB3 Hb10_8.out.lt
  have f0 := hb8.free 0
  have f1 := hb8.free 1
  have hzn : w8.heap.size ≤ w9.heap.size := hB3.size
  have hlb8 := Hb8_8.out.lt
  have hlb10 := Hb10_8.out.lt
  clear c0 c1 d0 d1 hB3
  obtain ⟨c0, c1⟩ := (hb8).cells.c2
  simp only [Nat.zero_add] at c1
  go_upto_region 10 with fail
  have hown := own2Set hT3 hR3 hb8 (by decide) (by decide) (by decide) (.slice p3 oc2.length q3) (.slice p4 ol2.length q4)
  have hb10' := blk2Set hb10 (show b10 ≠ b8 by omega) (.slice p3 oc2.length q3) (.slice p4 ol2.length q4)
  have hA' := HA9.out.trans (below2Set w9 h4b8 (.slice p3 oc2.length q3) (.slice p4 ol2.length q4))
  have hzz := size2Set w9 b8 (.slice p3 oc2.length q3) (.slice p4 ol2.length q4)
  clear c0 c1 f0 f1 hT3 hR3 hb8 hb10 Hb8_8 Hb10_8
  generalize (w9.setCell ⟨b8, 0, none⟩ (.slice p3 oc2.length q3)).setCell ⟨b8, 1, none⟩ (.slice p4 ol2.length q4) = w10 at *
  obtain ⟨hT2, hR2, hb82⟩ := hown
  have HT2 := Lib.hid hT2
  have HR2 := Lib.hid hR2
  have Hb8_10 := Lib.hid hb82
  have Hb10_10 := Lib.hid hb10'
  have HA10 := Lib.hid hA'
  have hz10 := hA'.size
  have hlb10' := hb10'.lt
  clear hT2 hR2 hb82 hb10' hA'
  have hr4' : w.heap.size < w4.heap.size := by omega
  have hS0 : Below w4.heap.size w10 w10.drew := (Below.refl _ _).drew
  have hBB0 : Below w10.heap.size w10 w10.drew := (Below.refl _ _).drew
  refine wp_region_held_drew (S := fun w' => Below w4.heap.size w10 w') (by kernel_rfl) hS0 (fun hHeld => ?_)
  clear hS0
  generalize w10.drew = wd at *
  refine wpAnyH_take (i := 0) (v := .agg #[.slice ac rc.length cc, .slice av l.length cv2]) rfl (by kernel_rfl) (by kernel_rfl) (by kernel_rfl) (fun _ _ _ h => h) (Or.inl ⟨by rfl, ?_⟩) hHeld ?_
  · intro w' hSw; obtain ⟨z0, z1⟩ := ((Hbr.out.below HA10.out hr4').below hSw (by omega)).cells.c2; simp only [Nat.zero_add] at z1; go_simp
  try simp only [Act.put, List.getElem_toArray, List.getElem_cons_succ, List.getElem_cons_zero, List.setIfInBounds_toArray, List.set_cons_zero, List.set_cons_succ]
  refine wpAnyH_take (i := 2) (v := .agg #[.slice as_ sc.length cs, .slice am m.length cm]) rfl (by kernel_rfl) (by kernel_rfl) (by kernel_rfl) (fun _ _ _ h => h) (Or.inl ⟨by rfl, ?_⟩) hHeld ?_
  · intro w' hSw; obtain ⟨z0, z1⟩ := ((Hbs.out.below HA10.out hr4).below hSw (by omega)).cells.c2; simp only [Nat.zero_add] at z1; go_simp
  try simp only [Act.put, List.getElem_toArray, List.getElem_cons_succ, List.getElem_cons_zero, List.setIfInBounds_toArray, List.set_cons_zero, List.set_cons_succ]
  refine wpAnyH_ready (rs := [1]) (by kernel_rfl) (by simp) ?_
  refine allCall (f := 32) (args := #[.agg #[.slice ac rc.length cc, .slice av l.length cv2]]) rfl (by kernel_rfl) (by kernel_rfl) ?_ AllReadyH.nil
  refine ref_any _ _ _ _ _ _ wd _ (fun wr1 hB => ?_)
  refine ⟨_, rfl, hHeld.trans (hB.mono (by have := hBB0.size; omega)), ?_⟩
  have hHeld2 := hHeld.trans (hB.mono (by have := hBB0.size; omega))
  have hBB2 := hBB0.trans (hB.mono hBB0.size)
  clear hHeld hBB0 hB
  have hHeld := hHeld2
  have hBB0 := hBB2
  clear hHeld2 hBB2
  try simp only [Act.put, List.getElem_toArray, List.getElem_cons_succ, List.getElem_cons_zero, List.setIfInBounds_toArray, List.set_cons_zero, List.set_cons_succ]
  refine wpAnyH_ready (rs := [3]) (by kernel_rfl) (by simp) ?_
  refine allCall (f := 32) (args := #[.agg #[.slice as_ sc.length cs, .slice am m.length cm]]) rfl (by kernel_rfl) (by kernel_rfl) ?_ AllReadyH.nil
  refine ref_any _ _ _ _ _ _ wr1 _ (fun wr2 hB => ?_)
  refine ⟨_, rfl, hHeld.trans (hB.mono (by have := hBB0.size; omega)), ?_⟩
  have hHeld2 := hHeld.trans (hB.mono (by have := hBB0.size; omega))
  have hBB2 := hBB0.trans (hB.mono hBB0.size)
  clear hHeld hBB0 hB
  have hHeld := hHeld2
  have hBB0 := hBB2
  clear hHeld2 hBB2
  try simp only [Act.put, List.getElem_toArray, List.getElem_cons_succ, List.getElem_cons_zero, List.setIfInBounds_toArray, List.set_cons_zero, List.set_cons_succ]
  have hzW : w10.heap.size ≤ wr2.heap.size := hBB0.size
  have HAW := Lib.hid (HA10.out.trans hHeld)
  refine wpAnyH_ready (rs := [4]) (by kernel_rfl) (by simp) ?_
  refine allCall (f := 44) (args := #[.agg #[.slice ac rc.length cc, .slice av l.length cv2], .agg #[.slice as_ sc.length cs, .slice am m.length cm]]) rfl (by kernel_rfl) (by kernel_rfl) ?_ AllReadyH.nil
  refine refOr_any lc hc lo hi l3 h3 l4 h4 rc sc _ _ _ _ l m _ _ wr2 (Sl.below Hrc.out Strs.loc HAW.out (by omega)) (by omega) (Sl.below Hl.out rowE_loc HAW.out (by omega)) (by omega) (Sl.below Hsc.out Strs.loc HAW.out (by omega)) (by omega) (Sl.below Hm.out rowE_loc HAW.out (by omega)) (by omega) Hrs.out Hms.out (by omega) (by omega) _ (fun wq cv6 lv6 hB hT6 hR6 => ?_)
  rw [hoc2] at hT6
  rw [hol2] at hR6
  obtain ⟨p5, q5, rfl, -, -, -, -⟩ := hT6.form
  obtain ⟨p6, q6, rfl, -, -, -, -⟩ := hR6.form
  refine ⟨_, rfl, hHeld.trans (hB.mono (by omega)), ?_⟩
  have hHeld2 := hHeld.trans (hB.mono (by omega))
  have hBB2 := hBB0.trans (hB.mono hBB0.size)
  have hzq : wr2.heap.size ≤ wq.heap.size := hB.size
  clear hHeld hBB0 hB
  have hHeld := hHeld2
  have hBB0 := hBB2
  clear hHeld2 hBB2
  try simp only [Act.put, List.getElem_toArray, List.getElem_cons_succ, List.getElem_cons_zero, List.setIfInBounds_toArray, List.set_cons_zero, List.set_cons_succ]
  refine wpAnyH_take (i := 5) (v := .tuple #[.agg #[.slice p5 oc2.length q5, .slice p6 ol2.length q6], .int .i64 ((orErr rc l sc m))]) rfl (by kernel_rfl) (by kernel_rfl) (by kernel_rfl) (fun _ _ _ h => h) (Or.inl ⟨by rfl, ?_⟩) hHeld ?_
  · intro w' hSw; go_simp
  try simp only [Act.put, List.getElem_toArray, List.getElem_cons_succ, List.getElem_cons_zero, List.setIfInBounds_toArray, List.set_cons_zero, List.set_cons_succ]
  refine wpAnyH_take (i := 6) (v := .agg #[.slice p5 oc2.length q5, .slice p6 ol2.length q6]) rfl (by kernel_rfl) (by kernel_rfl) (by kernel_rfl) (fun _ _ _ h => h) (Or.inl ⟨by rfl, ?_⟩) hHeld ?_
  · intro w' hSw; go_simp
  try simp only [Act.put, List.getElem_toArray, List.getElem_cons_succ, List.getElem_cons_zero, List.setIfInBounds_toArray, List.set_cons_zero, List.set_cons_succ]
  refine wpAnyH_take (i := 7) (v := .int .i64 ((orErr rc l sc m))) rfl (by kernel_rfl) (by kernel_rfl) (by kernel_rfl) (fun _ _ _ h => h) (Or.inl ⟨by rfl, ?_⟩) hHeld ?_
  · intro w' hSw; go_simp
  try simp only [Act.put, List.getElem_toArray, List.getElem_cons_succ, List.getElem_cons_zero, List.setIfInBounds_toArray, List.set_cons_zero, List.set_cons_succ]
  refine wpAnyH_ready (rs := [8]) (by kernel_rfl) (by simp) ?_
  have hbq := Hb10_10.out.below hBB0 hlb10'
  have hb8q := Hb8_10.out.below hBB0 Hb8_10.out.lt
  have hTq := Own.kept HT2.out hBB0
  have hRq := OwnR.kept HR2.out hBB0
  have hS1 := hHeld.trans (below2Set wq h4b10 (.slice p5 oc2.length q5) (.slice p6 ol2.length q6))
  have hown := own2Set hTq hRq hbq (by decide) (by decide) (by decide) (.slice p5 oc2.length q5) (.slice p6 ol2.length q6)
  have hb8' := blk2Set hb8q (show b8 ≠ b10 by omega) (.slice p5 oc2.length q5) (.slice p6 ol2.length q6)
  have hTb := Sl.agree hT6 Strs.loc (agree2Set wq (b := b10) (by omega) (.slice p5 oc2.length q5) (.slice p6 ol2.length q6))
  have hRb := Sl.agree hR6 rowE_loc (agree2Set wq (b := b10) (by omega) (.slice p5 oc2.length q5) (.slice p6 ol2.length q6))
  have hzz2 := size2Set wq b10 (.slice p5 oc2.length q5) (.slice p6 ol2.length q6)
  refine allSkip (w' := (wq.setCell ⟨b10, 0, none⟩ (.slice p5 oc2.length q5)).setCell ⟨b10, 1, none⟩ (.slice p6 ol2.length q6)) rfl (by kernel_rfl) (by obtain ⟨e0, e1⟩ := hbq.cells.c2; simp only [Nat.zero_add] at e1; have f0 := hbq.free 0; have f1 := hbq.free 1; go_simp) hS1 ?_ AllReadyH.nil
  clear hHeld hbq hb8q hTq hRq hT6 hR6 hBB0
  have hHeld := hS1
  try simp only [Act.put, List.getElem_toArray, List.getElem_cons_succ, List.getElem_cons_zero, List.setIfInBounds_toArray, List.set_cons_zero, List.set_cons_succ]
  refine wpAnyH_take (i := 9) (v := .int .i64 (orErr rc l sc m)) rfl (by kernel_rfl) (by kernel_rfl) (by kernel_rfl) (fun _ _ _ h => h) (Or.inl ⟨by rfl, ?_⟩) hHeld ?_
  · intro w' hSw; go_simp
  try simp only [Act.put, List.getElem_toArray, List.getElem_cons_succ, List.getElem_cons_zero, List.setIfInBounds_toArray, List.set_cons_zero, List.set_cons_succ]
  refine wpAnyH_done (by kernel_rfl) ?_ _
  generalize (wq.setCell ⟨b10, 0, none⟩ (.slice p5 oc2.length q5)).setCell ⟨b10, 1, none⟩ (.slice p6 ol2.length q6) = w13 at *
  have HA13 := Lib.hid (HA10.out.trans hHeld)
  have hz13 := HA13.out.size
  obtain ⟨hT5, hR5, hb105⟩ := hown
  have HT5 := Lib.hid hT5
  have HR5 := Lib.hid hR5
  have HTb := Lib.hid hTb
  have HRb := Lib.hid hRb
  have Hb8_13 := Lib.hid hb8'
  have Hb10_13 := Lib.hid hb105
  clear hHeld hS1 hT5 hR5 hTb hRb hb8' hb105 HT2 HR2 Hb8_10 Hb10_10
  obtain ⟨c0, c1⟩ := (Hb8_13.out).cells.c2
  simp only [Nat.zero_add] at c1
  obtain ⟨d0, d1⟩ := (Hb10_13.out).cells.c2
  simp only [Nat.zero_add] at d1
  go_wp2_with fail
  refine toldO_any w4.heap.size wr2.heap.size wq.heap.size lc hc oc2 ol2 hs3 _ _ _ _ _ w13 (by omega) (Own.lower HT5.out (by omega)) HTb.out (OwnR.lower HR5.out (by omega)) HRb.out (by omega) (by omega) Hos2.out _ (fun w14 hB8 hO8 => ?_)
  have Hb8_14 := Lib.hid (hO8.blk Hb8_13.out (TB.not HT5.out HR5.out Hb8_13.out (by decide) (by decide)))
  have Hb10_14 := Lib.hid (hO8.blk Hb10_13.out (TB.not HT5.out HR5.out Hb10_13.out (by decide) (by decide)))
  have HA14 := Lib.hid (HA13.out.trans hB8)
  have hz14 := HA14.out.size
  clear hB8 hO8 c0 c1 d0 d1 HT5 HR5 HTb HRb Hb8_13 Hb10_13 HA9 HA10 HA13 hoc2 hol2 Hos2 HAW hzW hzq hzz hzz2 hzn hlb8 hlb10 hlb10' hr4'
  obtain ⟨oc3, hoc3⟩ : ∃ oc, okL (woErr rc l sc m) rc = oc := ⟨_, rfl⟩
  obtain ⟨ol3, hol3⟩ : ∃ ol, okL (woErr rc l sc m) (relCanon (withoutL rc l sc m)) = ol := ⟨_, rfl⟩
  have Hos3 : Hid (∀ x ∈ ol3, ∀ a ∈ x, a.s.length ≤ 9223372036854775807) := Lib.hid (fun x hx => by
    have h1 := relCanon_mem (okL_mem (by rw [hol3]; exact hx))
    exact Hrs.out x (List.mem_filter.1 h1).1)
  obtain ⟨c0, c1⟩ := ((Hby.out.below HA14.out hy4)).cells.c2
  simp only [Nat.zero_add] at c1
  obtain ⟨d0, d1⟩ := ((Hbz.out.below HA14.out hbz)).cells.c2
  simp only [Nat.zero_add] at d1
  go_wp2_with fail
  refine Without_any wa.heap.size w1.heap.size wa.heap.size w1.heap.size w2.heap.size w3.heap.size w2.heap.size w3.heap.size rc sc _ _ _ _ l m _ _ w14 (Sl.below Hyc.out Strs.loc HA14.out (by omega)) (by omega) (Sl.below Hyl.out rowE_loc HA14.out (by omega)) (by omega) (Sl.below Hzc.out Strs.loc HA14.out (by omega)) (by omega) (Sl.below Hzl.out rowE_loc HA14.out (by omega)) (by omega) _ (fun w15 cv3 lv3 hs3 hB3 hT3 hR3 => ?_)
  rw [hoc3] at hT3
  rw [hol3] at hR3
  obtain ⟨p3, q3, rfl⟩ := Own.slice hT3
  obtain ⟨p4, q4, e4⟩ := Own.slice hR3.own
  rw [hR3.len] at e4
  subst e4
  have HA15 := Lib.hid (HA14.out.trans (hB3.mono (by omega)))
  have hz15 := HA15.out.size
  have hb8 := Hb8_14.out.below hB3 Hb8_14.out.lt
  have hb10 := Hb10_14.out.below hB3 Hb10_14.out.lt
  have f0 := hb8.free 0
  have f1 := hb8.free 1
  have hzn : w14.heap.size ≤ w15.heap.size := hB3.size
  have hlb8 := Hb8_14.out.lt
  have hlb10 := Hb10_14.out.lt
  clear c0 c1 d0 d1 hB3
  obtain ⟨c0, c1⟩ := (hb8).cells.c2
  simp only [Nat.zero_add] at c1
  go_upto_region 14 with fail
  have hown := own2Set hT3 hR3 hb8 (by decide) (by decide) (by decide) (.slice p3 oc3.length q3) (.slice p4 ol3.length q4)
  have hb10' := blk2Set hb10 (show b10 ≠ b8 by omega) (.slice p3 oc3.length q3) (.slice p4 ol3.length q4)
  have hA' := HA15.out.trans (below2Set w15 h4b8 (.slice p3 oc3.length q3) (.slice p4 ol3.length q4))
  have hzz := size2Set w15 b8 (.slice p3 oc3.length q3) (.slice p4 ol3.length q4)
  clear c0 c1 f0 f1 hT3 hR3 hb8 hb10 Hb8_14 Hb10_14
  generalize (w15.setCell ⟨b8, 0, none⟩ (.slice p3 oc3.length q3)).setCell ⟨b8, 1, none⟩ (.slice p4 ol3.length q4) = w16 at *
  obtain ⟨hT2, hR2, hb82⟩ := hown
  have HT2 := Lib.hid hT2
  have HR2 := Lib.hid hR2
  have Hb8_16 := Lib.hid hb82
  have Hb10_16 := Lib.hid hb10'
  have HA16 := Lib.hid hA'
  have hz16 := hA'.size
  have hlb10' := hb10'.lt
  clear hT2 hR2 hb82 hb10' hA'
  have hr4' : w.heap.size < w4.heap.size := by omega
  have hS0 : Below w4.heap.size w16 w16.drew := (Below.refl _ _).drew
  have hBB0 : Below w16.heap.size w16 w16.drew := (Below.refl _ _).drew
  refine wp_region_held_drew (S := fun w' => Below w4.heap.size w16 w') (by kernel_rfl) hS0 (fun hHeld => ?_)
  clear hS0
  generalize w16.drew = wd at *
  refine wpAnyH_take (i := 0) (v := .agg #[.slice ac rc.length cc, .slice av l.length cv2]) rfl (by kernel_rfl) (by kernel_rfl) (by kernel_rfl) (fun _ _ _ h => h) (Or.inl ⟨by rfl, ?_⟩) hHeld ?_
  · intro w' hSw; obtain ⟨z0, z1⟩ := ((Hbr.out.below HA16.out hr4').below hSw (by omega)).cells.c2; simp only [Nat.zero_add] at z1; go_simp
  try simp only [Act.put, List.getElem_toArray, List.getElem_cons_succ, List.getElem_cons_zero, List.setIfInBounds_toArray, List.set_cons_zero, List.set_cons_succ]
  refine wpAnyH_take (i := 2) (v := .agg #[.slice as_ sc.length cs, .slice am m.length cm]) rfl (by kernel_rfl) (by kernel_rfl) (by kernel_rfl) (fun _ _ _ h => h) (Or.inl ⟨by rfl, ?_⟩) hHeld ?_
  · intro w' hSw; obtain ⟨z0, z1⟩ := ((Hbs.out.below HA16.out hr4).below hSw (by omega)).cells.c2; simp only [Nat.zero_add] at z1; go_simp
  try simp only [Act.put, List.getElem_toArray, List.getElem_cons_succ, List.getElem_cons_zero, List.setIfInBounds_toArray, List.set_cons_zero, List.set_cons_succ]
  refine wpAnyH_ready (rs := [1]) (by kernel_rfl) (by simp) ?_
  refine allCall (f := 32) (args := #[.agg #[.slice ac rc.length cc, .slice av l.length cv2]]) rfl (by kernel_rfl) (by kernel_rfl) ?_ AllReadyH.nil
  refine ref_any _ _ _ _ _ _ wd _ (fun wr1 hB => ?_)
  refine ⟨_, rfl, hHeld.trans (hB.mono (by have := hBB0.size; omega)), ?_⟩
  have hHeld2 := hHeld.trans (hB.mono (by have := hBB0.size; omega))
  have hBB2 := hBB0.trans (hB.mono hBB0.size)
  clear hHeld hBB0 hB
  have hHeld := hHeld2
  have hBB0 := hBB2
  clear hHeld2 hBB2
  try simp only [Act.put, List.getElem_toArray, List.getElem_cons_succ, List.getElem_cons_zero, List.setIfInBounds_toArray, List.set_cons_zero, List.set_cons_succ]
  refine wpAnyH_ready (rs := [3]) (by kernel_rfl) (by simp) ?_
  refine allCall (f := 32) (args := #[.agg #[.slice as_ sc.length cs, .slice am m.length cm]]) rfl (by kernel_rfl) (by kernel_rfl) ?_ AllReadyH.nil
  refine ref_any _ _ _ _ _ _ wr1 _ (fun wr2 hB => ?_)
  refine ⟨_, rfl, hHeld.trans (hB.mono (by have := hBB0.size; omega)), ?_⟩
  have hHeld2 := hHeld.trans (hB.mono (by have := hBB0.size; omega))
  have hBB2 := hBB0.trans (hB.mono hBB0.size)
  clear hHeld hBB0 hB
  have hHeld := hHeld2
  have hBB0 := hBB2
  clear hHeld2 hBB2
  try simp only [Act.put, List.getElem_toArray, List.getElem_cons_succ, List.getElem_cons_zero, List.setIfInBounds_toArray, List.set_cons_zero, List.set_cons_succ]
  have hzW : w16.heap.size ≤ wr2.heap.size := hBB0.size
  have HAW := Lib.hid (HA16.out.trans hHeld)
  refine wpAnyH_ready (rs := [4]) (by kernel_rfl) (by simp) ?_
  refine allCall (f := 46) (args := #[.agg #[.slice ac rc.length cc, .slice av l.length cv2], .agg #[.slice as_ sc.length cs, .slice am m.length cm]]) rfl (by kernel_rfl) (by kernel_rfl) ?_ AllReadyH.nil
  refine refWithout_any lc hc lo hi l3 h3 l4 h4 rc sc _ _ _ _ l m _ _ wr2 (Sl.below Hrc.out Strs.loc HAW.out (by omega)) (by omega) (Sl.below Hl.out rowE_loc HAW.out (by omega)) (by omega) (Sl.below Hsc.out Strs.loc HAW.out (by omega)) (by omega) (Sl.below Hm.out rowE_loc HAW.out (by omega)) (by omega) Hrs.out Hms.out (by omega) (by omega) _ (fun wq cv6 lv6 hB hT6 hR6 => ?_)
  rw [hoc3] at hT6
  rw [hol3] at hR6
  obtain ⟨p5, q5, rfl, -, -, -, -⟩ := hT6.form
  obtain ⟨p6, q6, rfl, -, -, -, -⟩ := hR6.form
  refine ⟨_, rfl, hHeld.trans (hB.mono (by omega)), ?_⟩
  have hHeld2 := hHeld.trans (hB.mono (by omega))
  have hBB2 := hBB0.trans (hB.mono hBB0.size)
  have hzq : wr2.heap.size ≤ wq.heap.size := hB.size
  clear hHeld hBB0 hB
  have hHeld := hHeld2
  have hBB0 := hBB2
  clear hHeld2 hBB2
  try simp only [Act.put, List.getElem_toArray, List.getElem_cons_succ, List.getElem_cons_zero, List.setIfInBounds_toArray, List.set_cons_zero, List.set_cons_succ]
  refine wpAnyH_take (i := 5) (v := .tuple #[.agg #[.slice p5 oc3.length q5, .slice p6 ol3.length q6], .int .i64 ((woErr rc l sc m))]) rfl (by kernel_rfl) (by kernel_rfl) (by kernel_rfl) (fun _ _ _ h => h) (Or.inl ⟨by rfl, ?_⟩) hHeld ?_
  · intro w' hSw; go_simp
  try simp only [Act.put, List.getElem_toArray, List.getElem_cons_succ, List.getElem_cons_zero, List.setIfInBounds_toArray, List.set_cons_zero, List.set_cons_succ]
  refine wpAnyH_take (i := 6) (v := .agg #[.slice p5 oc3.length q5, .slice p6 ol3.length q6]) rfl (by kernel_rfl) (by kernel_rfl) (by kernel_rfl) (fun _ _ _ h => h) (Or.inl ⟨by rfl, ?_⟩) hHeld ?_
  · intro w' hSw; go_simp
  try simp only [Act.put, List.getElem_toArray, List.getElem_cons_succ, List.getElem_cons_zero, List.setIfInBounds_toArray, List.set_cons_zero, List.set_cons_succ]
  refine wpAnyH_take (i := 7) (v := .int .i64 ((woErr rc l sc m))) rfl (by kernel_rfl) (by kernel_rfl) (by kernel_rfl) (fun _ _ _ h => h) (Or.inl ⟨by rfl, ?_⟩) hHeld ?_
  · intro w' hSw; go_simp
  try simp only [Act.put, List.getElem_toArray, List.getElem_cons_succ, List.getElem_cons_zero, List.setIfInBounds_toArray, List.set_cons_zero, List.set_cons_succ]
  refine wpAnyH_ready (rs := [8]) (by kernel_rfl) (by simp) ?_
  have hbq := Hb10_16.out.below hBB0 hlb10'
  have hb8q := Hb8_16.out.below hBB0 Hb8_16.out.lt
  have hTq := Own.kept HT2.out hBB0
  have hRq := OwnR.kept HR2.out hBB0
  have hS1 := hHeld.trans (below2Set wq h4b10 (.slice p5 oc3.length q5) (.slice p6 ol3.length q6))
  have hown := own2Set hTq hRq hbq (by decide) (by decide) (by decide) (.slice p5 oc3.length q5) (.slice p6 ol3.length q6)
  have hb8' := blk2Set hb8q (show b8 ≠ b10 by omega) (.slice p5 oc3.length q5) (.slice p6 ol3.length q6)
  have hTb := Sl.agree hT6 Strs.loc (agree2Set wq (b := b10) (by omega) (.slice p5 oc3.length q5) (.slice p6 ol3.length q6))
  have hRb := Sl.agree hR6 rowE_loc (agree2Set wq (b := b10) (by omega) (.slice p5 oc3.length q5) (.slice p6 ol3.length q6))
  have hzz2 := size2Set wq b10 (.slice p5 oc3.length q5) (.slice p6 ol3.length q6)
  refine allSkip (w' := (wq.setCell ⟨b10, 0, none⟩ (.slice p5 oc3.length q5)).setCell ⟨b10, 1, none⟩ (.slice p6 ol3.length q6)) rfl (by kernel_rfl) (by obtain ⟨e0, e1⟩ := hbq.cells.c2; simp only [Nat.zero_add] at e1; have f0 := hbq.free 0; have f1 := hbq.free 1; go_simp) hS1 ?_ AllReadyH.nil
  clear hHeld hbq hb8q hTq hRq hT6 hR6 hBB0
  have hHeld := hS1
  try simp only [Act.put, List.getElem_toArray, List.getElem_cons_succ, List.getElem_cons_zero, List.setIfInBounds_toArray, List.set_cons_zero, List.set_cons_succ]
  refine wpAnyH_take (i := 9) (v := .int .i64 (woErr rc l sc m)) rfl (by kernel_rfl) (by kernel_rfl) (by kernel_rfl) (fun _ _ _ h => h) (Or.inl ⟨by rfl, ?_⟩) hHeld ?_
  · intro w' hSw; go_simp
  try simp only [Act.put, List.getElem_toArray, List.getElem_cons_succ, List.getElem_cons_zero, List.setIfInBounds_toArray, List.set_cons_zero, List.set_cons_succ]
  refine wpAnyH_done (by kernel_rfl) ?_ _
  generalize (wq.setCell ⟨b10, 0, none⟩ (.slice p5 oc3.length q5)).setCell ⟨b10, 1, none⟩ (.slice p6 ol3.length q6) = w19 at *
  have HA19 := Lib.hid (HA16.out.trans hHeld)
  have hz19 := HA19.out.size
  obtain ⟨hT5, hR5, hb105⟩ := hown
  have HT5 := Lib.hid hT5
  have HR5 := Lib.hid hR5
  have HTb := Lib.hid hTb
  have HRb := Lib.hid hRb
  have Hb8_19 := Lib.hid hb8'
  have Hb10_19 := Lib.hid hb105
  clear hHeld hS1 hT5 hR5 hTb hRb hb8' hb105 HT2 HR2 Hb8_16 Hb10_16
  obtain ⟨c0, c1⟩ := (Hb8_19.out).cells.c2
  simp only [Nat.zero_add] at c1
  obtain ⟨d0, d1⟩ := (Hb10_19.out).cells.c2
  simp only [Nat.zero_add] at d1
  go_wp2_with fail
  refine toldO_any w4.heap.size wr2.heap.size wq.heap.size lc hc oc3 ol3 hs3 _ _ _ _ _ w19 (by omega) (Own.lower HT5.out (by omega)) HTb.out (OwnR.lower HR5.out (by omega)) HRb.out (by omega) (by omega) Hos3.out _ (fun w20 hB8 hO8 => ?_)
  have Hb8_20 := Lib.hid (hO8.blk Hb8_19.out (TB.not HT5.out HR5.out Hb8_19.out (by decide) (by decide)))
  have Hb10_20 := Lib.hid (hO8.blk Hb10_19.out (TB.not HT5.out HR5.out Hb10_19.out (by decide) (by decide)))
  have HA20 := Lib.hid (HA19.out.trans hB8)
  have hz20 := HA20.out.size
  clear hB8 hO8 c0 c1 d0 d1 HT5 HR5 HTb HRb Hb8_19 Hb10_19 HA15 HA16 HA19 hoc3 hol3 Hos3 HAW hzW hzq hzz hzz2 hzn hlb8 hlb10 hlb10' hr4'
  have Hby20 := Lib.hid (Hby.out.below HA20.out hy4)
  have Hbz20 := Lib.hid (Hbz.out.below HA20.out hbz)
  have Hbr20 := Lib.hid (Hbr.out.below HA20.out (by omega))
  have Hbs20 := Lib.hid (Hbs.out.below HA20.out hr4)
  obtain ⟨c0, c1⟩ := (Hby20.out).cells.c2
  simp only [Nat.zero_add] at c1
  obtain ⟨d0, d1⟩ := (Hbr20.out).cells.c2
  simp only [Nat.zero_add] at d1
  go_wp2_with fail
  refine lawSame_any wa.heap.size w1.heap.size lo hi wa.heap.size w1.heap.size lc hc rc l _ _ _ _ w20 (Sl.below Hyc.out Strs.loc HA20.out (by omega)) (Sl.below Hrc.out Strs.loc HA20.out (by omega)) (Sl.below Hyl.out rowE_loc HA20.out (by omega)) (Sl.below Hl.out rowE_loc HA20.out (by omega)) (by omega) (by omega) (by omega) (by omega) Hrs.out _ (fun w21 hB => ?_)
  have HA21 := Lib.hid (HA20.out.trans (hB.mono (by omega)))
  have hz21 := HA21.out.size
  clear hB c0 c1 d0 d1
  obtain ⟨c0, c1⟩ := (Hbz.out.below HA21.out hbz).cells.c2
  simp only [Nat.zero_add] at c1
  obtain ⟨d0, d1⟩ := (Hbs.out.below HA21.out hr4).cells.c2
  simp only [Nat.zero_add] at d1
  go_wp2_with fail
  refine lawSame_any w2.heap.size w3.heap.size l4 h4 w2.heap.size w3.heap.size l3 h3 sc m _ _ _ _ w21 (Sl.below Hzc.out Strs.loc HA21.out (by omega)) (Sl.below Hsc.out Strs.loc HA21.out (by omega)) (Sl.below Hzl.out rowE_loc HA21.out (by omega)) (Sl.below Hm.out rowE_loc HA21.out (by omega)) (by omega) (by omega) (by omega) (by omega) Hms.out _ (fun w22 hB => ?_)
  have HA22 := Lib.hid (HA21.out.trans (hB.mono (by omega)))
  have hr := HR.out w22 (HBw4.out.trans (HA22.out.mono (by omega)))
  go_wp2_with fail
  first | exact hr | exact fin hr rfl

end Go.Proofs.Ytpncblagjkbemaa
end

/- RowsMeets' walk, of two relations as arguments lay them. -/
section
namespace Go.Proofs.Ytpncblagjkbemaa
open Go.RowKit
theorem RowsMeets_rel (p q : List S × List (List V)) (v u : Value) (w : World) (hp : RelIn w v p) (ho : relOk p) (hq : RelIn w u q) (hoq : relOk q) (R : Ending → World → Prop)
    (hR : ∀ w', Below w.heap.size w w' → R (.returned (.bool true)) w') : Calls Try.prog 7 #[v, u] w R := by
  obtain ⟨ac, cc, lv, rfl, h1, h2⟩ := hp
  obtain ⟨ad, cd, mv, rfl, h3, h4⟩ := hq
  exact RowsMeets_any 0 w.heap.size 0 w.heap.size 0 w.heap.size 0 w.heap.size p.1 q.1 ac ad cc cd p.2 q.2 lv mv w h1 (Nat.le_refl _) h2 (Nat.le_refl _) h3 (Nat.le_refl _) h4 (Nat.le_refl _) (fun x hx a ha => ho x hx a ha) (fun x hx a ha => hoq x hx a ha) R hR
end Go.Proofs.Ytpncblagjkbemaa
end

/- RowsMeets holds outright: for any two relations the call returns true, and the arguments read behind it as before. No condition. -/
section
namespace Go.Proofs.Ytpncblagjkbemaa.rowsMeets
open Go.ChangeShapes Go.WideShapes Go.ChangeAt Go.RowKit
open Go.ChangeMaps (open_string shut_string)
set_option linter.unusedVariables false

set_option maxRecDepth 100000 in
theorem contract (H : Type) (enc : TypeId × Value → H) (W : World) (base : Nat) (args : Array Value) (ds gs : List (DataW H)) (before : List MemPlace)
    (hval : ∀ (j : Nat) t v, Try.f7.params[j]? = some t → args[j]? = some v → Value.okWide Try.prog W .any base t v)
    (hW : DataW.Whole enc Try.prog Try.f7.params.toList Rows.rowsMeetsSpec.vars false W args.toList ds gs before) :
    Calls Try.prog 7 args W fun e W' => ∃ v, e = .returned v ∧ Rows.rowsMeetsSpec.post enc Try.prog Try.f7 false true false false W args v W' := by
  have hW' := hW
  obtain ⟨p, q, hA0, hV, rfl, hfz, hnd⟩ := hW
  have hA : DataW.TrodAll enc Try.prog W 0 (fun _ => true) true Try.f7.params.toList args.toList ds p := hA0
  rw [Try.params7] at hA hval
  have hAk := hA
  obtain ⟨v0, vs0, d0, ds0, p0, q0, hargs, rfl, rfl, h0, r0⟩ := trodAll_cons hA
  obtain ⟨v1, vs1, d1, ds1, p1, q1, rfl, rfl, rfl, h1, r1⟩ := trodAll_cons r0
  obtain ⟨rfl, rfl, rfl⟩ := trodAll_nil r1
  obtain rfl : args = #[v0, v1] := by cases args; simp_all
  obtain ⟨rfl, rfl⟩ := trodVars_none hV
  obtain ⟨x0, s0, o0⟩ := open_rel (hval 0 34 v0 rfl rfl) h0
  obtain ⟨x1, s1, o1⟩ := open_rel (hval 1 34 v1 rfl rfl) h1
  clear hA0
  refine RowsMeets_rel x0 x1 _ _ W s0 o0 s1 o1 _ fun W' bel => ?_
  exact ⟨_, rfl, _, _, _, [], _, [], hW', trodAll_mk1 (shut_bool Try.underlying4 _), trodAll_below laidOut bel _ _ _ _ (by kernel_rfl) hAk, rfl, bel.frame _, fun h => by cases h⟩

set_option maxRecDepth 100000 in
theorem lifted (os : Os) (started : os.Started) (H : Type) (enc : TypeId × Value → H) :
    ReturnsInHanded {} Try.checked os 7 .any (Rows.rowsMeetsSpec.pre6 enc Try.prog Try.f7 Rows.rowsMeetsRow.domain false) (Rows.rowsMeetsSpec.post enc Try.prog Try.f7 false true false false) := by
  refine returnsInHanded_of_change (C := Try.checked) own started (by kernel_rfl) Try.func7
    (ChangeSpec.witness6 (enc := enc) (C := Try.checked) false ⟨#[], #[.agg #[.slice none 0 0, .slice none 0 0], .agg #[.slice none 0 0, .slice none 0 0]], []⟩ 8 (by kernel_rfl) (by kernel_rfl) (by kernel_rfl) (by kernel_rfl)) ?_
  intro W base args ds gs before hval hW _ _
  exact contract H enc W base args ds gs before hval hW

theorem over : Rows.rowsMeetsRow.holds Try.pinned (OpenSpec.ofChange Rows.rowsMeetsSpec) :=
  OpenClaim.holds_of_wide 7 Try.f7 rfl rfl rfl rfl rfl rfl rfl ⟨rfl, rfl, rfl, rfl, rfl⟩ rfl rfl rfl rfl rfl (by kernel_rfl) Try.func7 (by kernel_rfl)
    (of_decide_eq_true (by kernel_rfl)) (by unfold Func.isWrapper; first | (rw [if_pos (by decide +kernel)]; kernel_rfl) | (rw [if_neg (by decide +kernel)]; exact ⟨rfl, rfl⟩))
    (fun os started H enc _ => lifted os started H enc)

theorem proved : Rows.RowsMeetsSaid := over
end Go.Proofs.Ytpncblagjkbemaa.rowsMeets
end
