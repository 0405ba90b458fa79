/- The walk of TreeStays. (Printed by treest.py.) -/
import Derived.Test.YtmlcnfomiemdpaaTreeStP
import Derived.Laws.Cover1
namespace Go.Proofs.Ytmlcnfomiemdpaa
open Go.RowKit
attribute [local go_sem ↓] Go.wp_at_zero Go.wp_at_succ
set_option linter.unusedVariables false
set_option linter.unusedSimpArgs false

set_option maxRecDepth 100000 in
set_option maxHeartbeats 8000000 in
theorem TreeStays_any (lo hi : Nat) (l : List OpV) (v kv vv : Value) (key value : List UInt8) (w : World) (hv : Sl opE 6 lo hi w v l) (hk : Bytes lo hi w kv key) (hvv : Bytes lo hi w vv value) (hhi : hi ≤ w.heap.size)
    (R : Ending → World → Prop) (hR : ∀ w', Below w.heap.size w w' → R (.returned (.bool true)) w') : Calls Try.prog 8 #[v, kv, vv] w R := by
  have HR := Lib.hid hR
  have Hv := Lib.hid hv
  have Hk := Lib.hid hk
  have Hvv := Lib.hid hvv
  obtain ⟨ao, cap, rfl, -, -, -, -⟩ := hv.form
  obtain ⟨ak, ck, rfl, -, -, -, -⟩ := hk.form
  obtain ⟨av, cv, rfl, -, -, -, -⟩ := hvv.form
  clear hv hk hvv hR
  go_enter Try.func8, Try.ntmps8
  go_wp2_with fail
  refine alive_any w _ (fun w1 hB1 => ?_)
  have HB1 := Lib.hid hB1
  have Hv1 := Lib.hid (Sl.below Hv.out opE_loc hB1 hhi)
  have Hk1 := Lib.hid (Sl.below Hk.out (flat_loc _) hB1 hhi)
  have Hvv1 := Lib.hid (Sl.below Hvv.out (flat_loc _) hB1 hhi)
  have hs1 := hB1.size
  have hr1 := HR.out w1 hB1
  have hhi1 : hi ≤ w1.heap.size := Nat.le_trans hhi hs1
  clear hB1 Hv Hk Hvv
  go_wp2_with fail
  refine great_any lo hi l _ w1 Hv1.out _ ?_
  by_cases hgr : (decide (100 < l.length) || l.any OpV.great) = true
  · rw [hgr]
    go_wp2_with fail
    all_goals first | exact hr1 | exact fin hr1 rfl
  rw [Bool.not_eq_true] at hgr
  rw [hgr]
  have hll : l.length ≤ 100 := by
    simp only [Bool.or_eq_false_iff, decide_eq_false_iff_not] at hgr; omega
  clear hgr
  by_cases hk1 : 4096 < key.length
  · go_wp2_with fail
    all_goals first | exact hr1 | exact fin hr1 rfl
  by_cases hk2 : 65536 < value.length
  · go_wp2_with fail
    all_goals first | exact hr1 | exact fin hr1 rfl
  clear hr1
  go_wp2_with fail
  refine grown_any lo hi l _ w1 Hv1.out hhi1 hll _ (fun w2 p2 t hB2 ht2 hg2 => ?_)
  obtain ⟨q2, rfl⟩ := ht2.ptr2
  have hs2 := hB2.size
  have hmany : t.many ≤ 100 := Nat.le_trans hg2.many hll
  have hall : rangeL [] 1000 (t.from []) = t.toL := by
    rw [rangeL_all 1000 (t.from []) (by have := t.from_len []; omega), from_nil t hg2.rises]
  have Hall := Lib.hid hall
  have HB2 := Lib.hid (HB1.out.trans (hB2.mono hs1))
  have Ht2 := Lib.hid ht2
  have Hg2 := Lib.hid (hg2.mono hll)
  have hm6 : t.many ≤ 1000000 := by omega
  have hlen : t.toL.length = t.many := t.many_toL
  have Hk2 := Lib.hid (Sl.below Hk1.out (flat_loc _) hB2 hhi1)
  have Hv2 := Lib.hid (Sl.below Hvv1.out (flat_loc _) hB2 hhi1)
  have hhi2 : hi ≤ w2.heap.size := Nat.le_trans hhi1 hs2
  clear hB2 ht2 hg2 hall Hk1 Hvv1
  go_wp2_with fail
  refine Range_any Nn w1.heap.size 0 0 0 0 t [] [] (.pointer q2) (.slice none 0 0) (.slice none 0 0) 1000 w2 (Nn.lt _) hs2 Ht2.out (Sl.nil _ _ _ _ _) (Nat.zero_le _) (Sl.nil _ _ _ _ _) (Nat.zero_le _) hm6 Hg2.out.len8 _ (fun w3 va psa hB3 hPa => ?_)
  rw [Hall.out] at hPa
  obtain ⟨all, eall⟩ : ∃ x, x = t.toL := ⟨_, rfl⟩
  rw [← eall] at hPa hlen
  have Hri : Hid (Rises all) := Lib.hid (by rw [eall]; exact Hg2.out.rises)
  have Heall := Lib.hid eall
  obtain ⟨pa, ca, rfl⟩ := hPa.form
  have hs3 := hB3.size
  have HPa := Lib.hid hPa
  have Ht3 := Lib.hid (Ht2.out.step (Nn.lt _) hs2 hB3)
  have HB3 := Lib.hid (HB2.out.trans (hB3.mono HB2.out.size))
  have Hk3 := Lib.hid (Sl.below Hk2.out (flat_loc _) hB3 hhi2)
  have Hv3 := Lib.hid (Sl.below Hv2.out (flat_loc _) hB3 hhi2)
  have hhi3 : hi ≤ w3.heap.size := Nat.le_trans hhi2 hs3
  have hs13 : w1.heap.size ≤ w3.heap.size := Nat.le_trans hs2 hs3
  have hal : all.length ≤ 100 := by omega
  have Hlen := Lib.hid hlen
  obtain ⟨d0, hd0⟩ : ∃ d0, (getL key t.toL).getD [] = d0 := ⟨_, rfl⟩
  obtain ⟨b0, hb0⟩ : ∃ b0, (getL key t.toL).isSome = b0 := ⟨_, rfl⟩
  have Hd0 := Lib.hid hd0
  have Hb0 := Lib.hid hb0
  clear hPa hB3 eall Ht2 HB2 Hall hlen Hk2 Hv2 hd0 hb0
  go_wp2_with fail
  refine Get_u w1.heap.size lo hi 100 t key _ _ w3 hs13 Ht3.out Hk3.out Hg2.out d0 b0 Hd0.out Hb0.out _ (fun w4 a0 c0 hB4 hob => ?_)
  have hs4 := hB4.size
  have Ht4 := Lib.hid (Ht3.out.step (Nn.lt _) hs13 hB4)
  have HB4 := Lib.hid (HB3.out.trans (hB4.mono HB3.out.size))
  have Hk4 := Lib.hid (Sl.below Hk3.out (flat_loc _) hB4 hhi3)
  have Hv4 := Lib.hid (Sl.below Hv3.out (flat_loc _) hB4 hhi3)
  have HP4 := Lib.hid (HPa.out.below hB4)
  have Ho4 := Lib.hid hob
  have hhi4 : hi ≤ w4.heap.size := Nat.le_trans hhi3 hs4
  have hs14 : w1.heap.size ≤ w4.heap.size := Nat.le_trans hs13 hs4
  clear hB4 hob Ht3 HB3 Hk3 Hv3 HPa
  go_wp2_with fail
  refine (Put_x w1.heap.size lo hi lo hi 100 t key value _ _ _ w4 hs14 Ht4.out Hk4.out Hv4.out hhi4 hhi4 Hg2.out (by omega) (by omega) (by omega)).mono ?_
  rintro e w5 ⟨qu, rfl, hB5, -, hu5⟩
  have hs5 := hB5.size
  obtain ⟨u, eu⟩ : ∃ u, u = t.put key value := ⟨_, rfl⟩
  rw [← eu] at hu5
  have Hul : Hid (u.toL = insL key value t.toL) := Lib.hid (by rw [eu]; exact T.toL_put _ _ _ Hg2.out.rises)
  have Hgu : Hid (Gr u 101) := Lib.hid (by rw [eu]; exact Hg2.out.put _ _ (by omega) (by omega))
  have Hulen : Hid (u.many = all.length + (if b0 then 0 else 1)) := Lib.hid (by rw [← T.many_toL, Hul.out, insL_len _ _ _ Hg2.out.rises, Hb0.out, Heall.out])
  have Hu5 := Lib.hid hu5
  have Ht5 := Lib.hid (Ht4.out.step (Nn.lt _) hs14 hB5)
  have HB5 := Lib.hid (HB4.out.trans (hB5.mono HB4.out.size))
  have Hk5 := Lib.hid (Sl.below Hk4.out (flat_loc _) hB5 hhi4)
  have Hv5 := Lib.hid (Sl.below Hv4.out (flat_loc _) hB5 hhi4)
  have HP5 := Lib.hid (HP4.out.below hB5)
  have Ho5 := Lib.hid (Sl.below Ho4.out (flat_loc _) hB5 (Nat.le_refl _))
  have hhi5 : hi ≤ w5.heap.size := Nat.le_trans hhi4 hs5
  have hs15 : w1.heap.size ≤ w5.heap.size := Nat.le_trans hs14 hs5
  clear hB5 hu5 Ht4 HB4 Hk4 Hv4 HP4 Ho4 eu
  go_wp2_with fail
  refine Get_u w1.heap.size lo hi 101 u key _ _ w5 hs15 Hu5.out Hk5.out Hgu.out value true (by rw [Hul.out, getL_insL]; rfl) (by rw [Hul.out, getL_insL]; rfl) _ (fun w6 a6 c6 hB6 hb6 => ?_)
  have hs6 := hB6.size
  have Hu6 := Lib.hid (Hu5.out.step (Nn.lt _) hs15 hB6)
  have Ht6 := Lib.hid (Ht5.out.step (Nn.lt _) hs15 hB6)
  have HB6 := Lib.hid (HB5.out.trans (hB6.mono HB5.out.size))
  have Hk6 := Lib.hid (Sl.below Hk5.out (flat_loc _) hB6 hhi5)
  have Hv6 := Lib.hid (Sl.below Hv5.out (flat_loc _) hB6 hhi5)
  have HP6 := Lib.hid (HP5.out.below hB6)
  have Ho6 := Lib.hid (Sl.below Ho5.out (flat_loc _) hB6 hs5)
  have Hx6 := Lib.hid hb6
  have hhi6 : hi ≤ w6.heap.size := Nat.le_trans hhi5 hs6
  have hs16 : w1.heap.size ≤ w6.heap.size := Nat.le_trans hs15 hs6
  clear hB6 hb6 Ht5 Hu5 HB5 Hk5 Hv5 HP5 Ho5
  go_wp2_with fail
  refine Cut_any Nn w1.heap.size lo hi u key _ _ w6 (Nn.lt _) hs16 Hu6.out Hk6.out hhi6 (by have := Hgu.out.many; omega) _ (fun w7 qc hB7 _ hc7 => ?_)
  obtain ⟨c, ec⟩ : ∃ c, c = u.cut key := ⟨_, rfl⟩
  rw [← ec] at hc7
  have Hcl : Hid (c.toL = delL key t.toL) := Lib.hid (by rw [ec, T.toL_cut _ _ Hgu.out.rises, Hul.out, delL_insL])
  have Hgc : Hid (Gr c 101) := Lib.hid (by rw [ec]; exact Hgu.out.cut _)
  have hs7 := hB7.size
  have Hc7 := Lib.hid hc7
  have Hu7 := Lib.hid (Hu6.out.step (Nn.lt _) hs16 hB7)
  have Ht7 := Lib.hid (Ht6.out.step (Nn.lt _) hs16 hB7)
  have HB7 := Lib.hid (HB6.out.trans (hB7.mono HB6.out.size))
  have Hk7 := Lib.hid (Sl.below Hk6.out (flat_loc _) hB7 hhi6)
  have Hv7 := Lib.hid (Sl.below Hv6.out (flat_loc _) hB7 hhi6)
  have HP7 := Lib.hid (HP6.out.below hB7)
  have ho46 : w4.heap.size ≤ w6.heap.size := Nat.le_trans hs5 hs6
  have Ho7 := Lib.hid (Sl.below Ho6.out (flat_loc _) hB7 ho46)
  have Hx7 := Lib.hid (Sl.below Hx6.out (flat_loc _) hB7 (Nat.le_refl _))
  have hhi7 : hi ≤ w7.heap.size := Nat.le_trans hhi6 hs7
  have hs17 : w1.heap.size ≤ w7.heap.size := Nat.le_trans hs16 hs7
  clear hB7 hc7 ec Ht6 Hu6 HB6 Hk6 Hv6 HP6 Ho6 Hx6
  go_wp2_with fail
  refine Get_u w1.heap.size lo hi 101 c key _ _ w7 hs17 Hc7.out Hk7.out Hgc.out [] false (by rw [Hcl.out, getL_delL]; rfl) (by rw [Hcl.out, getL_delL]; rfl) _ (fun wy ay cy hBy _ => ?_)
  have hsy := hBy.size
  have Hcy := Lib.hid (Hc7.out.step (Nn.lt _) hs17 hBy)
  have Huy := Lib.hid (Hu7.out.step (Nn.lt _) hs17 hBy)
  have Hty := Lib.hid (Ht7.out.step (Nn.lt _) hs17 hBy)
  have HBy := Lib.hid (HB7.out.trans (hBy.mono HB7.out.size))
  have Hky := Lib.hid (Sl.below Hk7.out (flat_loc _) hBy hhi7)
  have Hvy := Lib.hid (Sl.below Hv7.out (flat_loc _) hBy hhi7)
  have HPy := Lib.hid (HP7.out.below hBy)
  have ho47 : w4.heap.size ≤ w7.heap.size := Nat.le_trans ho46 hs7
  have Hoy := Lib.hid (Sl.below Ho7.out (flat_loc _) hBy ho47)
  have Hxy := Lib.hid (Sl.below Hx7.out (flat_loc _) hBy hs7)
  have hhiy : hi ≤ wy.heap.size := Nat.le_trans hhi7 hsy
  have hs1y : w1.heap.size ≤ wy.heap.size := Nat.le_trans hs17 hsy
  clear hBy Ht7 Hu7 Hc7 HB7 Hk7 Hv7 HP7 Ho7 Hx7
  rw [List.length_nil]
  go_wp2_with fail
  refine Cut_any Nn w1.heap.size lo hi t key _ _ wy (Nn.lt _) hs1y Hty.out Hky.out hhiy (by omega) _ (fun w8 qk hB8 _ hk8 => ?_)
  obtain ⟨back, ebk⟩ : ∃ c, c = t.cut key := ⟨_, rfl⟩
  rw [← ebk] at hk8
  have Hcb : Hid (c.toL = back.toL) := Lib.hid (by rw [ebk, T.toL_cut _ _ Hg2.out.rises, Hcl.out])
  have Hgbk : Hid (Gr back 100) := Lib.hid (by rw [ebk]; exact Hg2.out.cut _)
  have hs8 := hB8.size
  have Hbk := Lib.hid hk8
  have Hc8 := Lib.hid (Hcy.out.step (Nn.lt _) hs1y hB8)
  have Hu8 := Lib.hid (Huy.out.step (Nn.lt _) hs1y hB8)
  have Ht8 := Lib.hid (Hty.out.step (Nn.lt _) hs1y hB8)
  have HB8 := Lib.hid (HBy.out.trans (hB8.mono HBy.out.size))
  have Hk8 := Lib.hid (Sl.below Hky.out (flat_loc _) hB8 hhiy)
  have HP8 := Lib.hid (HPy.out.below hB8)
  have ho4y : w4.heap.size ≤ wy.heap.size := Nat.le_trans ho47 hsy
  have Ho8 := Lib.hid (Sl.below Hoy.out (flat_loc _) hB8 ho4y)
  have hxy6 : w6.heap.size ≤ wy.heap.size := Nat.le_trans hs7 hsy
  have cx := str (Sl.below Hxy.out (flat_loc _) hB8 hxy6)
  have cvv := str (Sl.below Hvy.out (flat_loc _) hB8 hhiy)
  have hhi8 : hi ≤ w8.heap.size := Nat.le_trans hhiy hs8
  have hs18 : w1.heap.size ≤ w8.heap.size := Nat.le_trans hs1y hs8
  have ho8 : w4.heap.size ≤ w8.heap.size := Nat.le_trans ho4y hs8
  clear hB8 hk8 ebk Hty Huy Hcy HBy Hky Hvy HPy Hoy Hxy
  cases b0 with
  | false =>
    have Hno : Hid (getL key t.toL = none) := Lib.hid (Option.isNone_iff_eq_none.1 (by have := Hb0.out; simp at this; simp [this]))
    go_wp2_with fail
    refine equal_same w1.heap.size 101 100 c back _ _ w8 hs18 Hc8.out Hbk.out Hgc.out Hgbk.out (by omega) (by omega) Hcb.out _ (fun w9 hB9 => ?_)
    have hs89 := hB9.size
    have Ht9 := Lib.hid (Ht8.out.step (Nn.lt _) hs18 hB9)
    have Hu9 := Lib.hid (Hu8.out.step (Nn.lt _) hs18 hB9)
    have HP9 := Lib.hid (HP8.out.below hB9)
    have Hk9 := Lib.hid (Sl.below Hk8.out (flat_loc _) hB9 hhi8)
    have Hold := Lib.hid (Sl.below Ho8.out (flat_loc _) hB9 ho8)
    have HB9 := Lib.hid (HB8.out.trans (hB9.mono HB8.out.size))
    have hs19 : w1.heap.size ≤ w9.heap.size := Nat.le_trans hs18 hs89
    have hhi9 : hi ≤ w9.heap.size := Nat.le_trans hhi8 hs89
    have hold9 : w4.heap.size ≤ w9.heap.size := Nat.le_trans ho8 hs89
    have Hc9 := Lib.hid (Hc8.out.step (Nn.lt _) hs18 hB9)
    clear hB9 Hc8 Hbk Ht8 Hu8 HP8 Hk8 Ho8 HB8
    go_wp2_with fail
    have hct : c.toL = t.toL := by rw [Hcl.out, delL_no _ _ Hno.out]
    refine equal_same w1.heap.size 101 100 c t _ _ w9 hs19 Hc9.out Ht9.out Hgc.out Hg2.out (by omega) (by omega) hct _ (fun wx hBx => ?_)
    have hs9x := hBx.size
    replace Ht9 := Lib.hid (Ht9.out.step (Nn.lt _) hs19 hBx)
    replace Hu9 := Lib.hid (Hu9.out.step (Nn.lt _) hs19 hBx)
    replace HP9 := Lib.hid (HP9.out.below hBx)
    replace Hk9 := Lib.hid (Sl.below Hk9.out (flat_loc _) hBx hhi9)
    replace Hold := Lib.hid (Sl.below Hold.out (flat_loc _) hBx hold9)
    replace HB9 := Lib.hid (HB9.out.trans (hBx.mono HB9.out.size))
    replace hs19 : w1.heap.size ≤ wx.heap.size := Nat.le_trans hs19 hs9x
    replace hhi9 : hi ≤ wx.heap.size := Nat.le_trans hhi9 hs9x
    replace hold9 : w4.heap.size ≤ wx.heap.size := Nat.le_trans hold9 hs9x
    clear hBx Hc9 hct hs9x hs89
    try clear w9
    obtain ⟨w9, ew9⟩ : ∃ x, x = wx := ⟨_, rfl⟩
    subst ew9
    go_wp2_with fail
    go_loopw [113] (fun t113 wr => ∃ i : Nat, i ≤ all.length ∧ t113 = .int .i64 (i : Int) ∧ Below w9.heap.size w9 wr) (fun t113 _ => all.length - (intOf t113).toNat)
    case atStart => exact ⟨0, Nat.zero_le _, rfl, Below.refl _ _⟩
    case round =>
      obtain ⟨i, hil, rfl, hB⟩ := hrel
      have HB := Lib.hid hB
      have hsbr := hB.size
      have Htr := Lib.hid (Ht9.out.step (Nn.lt _) hs19 hB)
      have Hur := Lib.hid (Hu9.out.step (Nn.lt _) hs19 hB)
      have HPr := Lib.hid (HP9.out.below hB)
      have Hkr := Lib.hid (Sl.below Hk9.out (flat_loc _) hB hhi9)
      have hs1r : w1.heap.size ≤ wr.heap.size := Nat.le_trans hs19 hsbr
      have hhir : hi ≤ wr.heap.size := Nat.le_trans hhi9 hsbr
      have i0 : (0 : Int) ≤ (i : Int) := by omega
      clear hB
      by_cases hi2 : i < all.length
      · have il : (i : Int) < (all.length : Int) := by omega
        obtain ⟨g, b1, d1, b2, d2, rfl, hg8, g0, g1, hg0, hg1⟩ := HPr.out.at i hi2
        have Hg0 := Lib.hid hg0
        have Hg1 := Lib.hid hg1
        have ga : getL all[i].1 t.toL = some all[i].2 := by rw [← Heall.out]; exact getL_self _ Hri.out _ (List.getElem_mem hi2)
        have Hga := Lib.hid ga
        clear hg0 hg1 ga
        go_wp2_with fail
        refine Get_u w1.heap.size w2.heap.size wr.heap.size 100 t all[i].1 _ _ wr hs1r Htr.out Hg0.out Hg2.out all[i].2 true (by rw [Hga.out]; rfl) (by rw [Hga.out]; rfl) _ (fun w6 a4 c4 hB6 hb4 => ?_)
        have hs6 := hB6.size
        have Hu6 := Lib.hid (Hur.out.step (Nn.lt _) hs1r hB6)
        have Hb4 := Lib.hid hb4
        have g06 := (World.cell?_of_block (hB6.block g hg8)).trans g0
        have HB6 := Lib.hid hB6
        have hs1r6 : w1.heap.size ≤ w6.heap.size := Nat.le_trans hs1r hs6
        clear hb4 hB6
        go_wp2_with fail
        obtain ⟨d5, hd5⟩ : ∃ d5, getL all[i].1 u.toL = some d5 ∧ (all[i].1 ≠ key → d5 = all[i].2) := by
          rw [Hul.out]
          by_cases he : all[i].1 = key
          · exact ⟨value, by rw [he, getL_insL], fun h => absurd he h⟩
          · exact ⟨all[i].2, by rw [getL_insL_ne _ _ _ (fun h => he (cmpB_eq _ _ h)), Hga.out], fun _ => rfl⟩
        have Hd5 := Lib.hid hd5
        clear hd5
        refine Get_u w1.heap.size w2.heap.size wr.heap.size 101 u all[i].1 _ _ w6 hs1r6 Hu6.out (Sl.below Hg0.out (flat_loc _) HB6.out (Nat.le_refl _)) Hgu.out d5 true (by rw [Hd5.out.1]; rfl) (by rw [Hd5.out.1]; rfl) _ (fun w7 a5 c5 hB7 hb5 => ?_)
        have hs7 := hB7.size
        have hB7r := HB6.out.trans (hB7.mono hs6)
        have H4 := Lib.hid (Sl.below Hb4.out (flat_loc _) hB7 (Nat.le_refl _))
        have H5 := Lib.hid hb5
        have hk7 := Sl.below Hkr.out (flat_loc _) hB7r hhir
        have Hk7 := Lib.hid hk7
        have H0 := Lib.hid (Sl.below Hg0.out (flat_loc _) hB7r (Nat.le_refl _))
        have H1 := Lib.hid (Sl.below Hg1.out (flat_loc _) hB7r (Nat.le_refl _))
        have hd8 : Below w7.heap.size w7 w7.drew := Below.drew (Below.refl _ _)
        have hhi7 : hi ≤ w7.heap.size := by omega
        have hce : ∀ w', Below w7.heap.size w7 w' → w'.cell? ⟨g, i * 2, none⟩ = some (.slice b1 all[i].1.length d1) ∧ w'.cell? ⟨g, i * 2 + 1, none⟩ = some (.slice b2 all[i].2.length d2) := fun w' h => by
          have h9 := hB7r.trans (h.mono (Nat.le_trans hs6 hs7))
          exact ⟨(World.cell?_of_block (h9.block g hg8)).trans g0, (World.cell?_of_block (h9.block g hg8)).trans g1⟩
        replace hB7r := hB7r.drew
        clear hB7 hb5 hk7 g0 g1 g06
        go_wp2_with fail
        by_cases hk1 : all[i].1 = key
        · have Hk1 := Lib.hid hk1
          clear hk1
          have hcv : ∀ w', Below w7.heap.size w7 w' → (convert 30 9 (.slice a4 all[i].2.length c4)).run Try.prog w' = .ok (.string ⟨all[i].2.toArray⟩) w' ∧ (convert 30 9 (.slice b2 all[i].2.length d2)).run Try.prog w' = .ok (.string ⟨all[i].2.toArray⟩) w' ∧ (convert 30 9 (.slice b1 all[i].1.length d1)).run Try.prog w' = .ok (.string ⟨all[i].1.toArray⟩) w' ∧ (convert 30 9 (.slice ak key.length ck)).run Try.prog w' = .ok (.string ⟨key.toArray⟩) w' ∧ True := fun w' h => ⟨str (Sl.below H4.out (flat_loc _) h (by omega)), str (Sl.below H1.out (flat_loc _) h (by omega)), str (Sl.below H0.out (flat_loc _) h (by omega)), str (Sl.below Hk7.out (flat_loc _) h hhi7), trivial⟩
          refine wp_region_held_drew (S := fun w' => Below w7.heap.size w7 w') (by kernel_rfl) hd8 (fun hHeld => ?_)
          refine wpAnyH_take (i := 0) (v := .bool true) rfl (by kernel_rfl) (by kernel_rfl) (by kernel_rfl) (fun _ _ _ h => h) (Or.inl ⟨by rfl, ?_⟩) hHeld ?_
          · intro w' hSw; go_simp
          try simp only [Act.put, List.getElem_toArray, List.getElem_cons_succ, List.getElem_cons_zero, List.setIfInBounds_toArray, List.set_cons_zero, List.set_cons_succ]
          refine wpAnyH_take (i := 1) (v := .bool false) rfl (by kernel_rfl) (by kernel_rfl) (by kernel_rfl) (fun _ _ _ h => h) (Or.inl ⟨by rfl, ?_⟩) hHeld ?_
          · intro w' hSw; go_simp
          try simp only [Act.put, List.getElem_toArray, List.getElem_cons_succ, List.getElem_cons_zero, List.setIfInBounds_toArray, List.set_cons_zero, List.set_cons_succ]
          refine wpAnyH_take (i := 2) (v := .bool false) rfl (by kernel_rfl) (by kernel_rfl) (by kernel_rfl) (fun _ _ _ h => h) (Or.inl ⟨by rfl, ?_⟩) hHeld ?_
          · intro w' hSw; go_simp
          try simp only [Act.put, List.getElem_toArray, List.getElem_cons_succ, List.getElem_cons_zero, List.setIfInBounds_toArray, List.set_cons_zero, List.set_cons_succ]
          refine wpAnyH_take (i := 3) (v := .bool true) rfl (by kernel_rfl) (by kernel_rfl) (by kernel_rfl) (fun _ _ _ h => h) (Or.inl ⟨by rfl, ?_⟩) hHeld ?_
          · intro w' hSw; go_simp
          try simp only [Act.put, List.getElem_toArray, List.getElem_cons_succ, List.getElem_cons_zero, List.setIfInBounds_toArray, List.set_cons_zero, List.set_cons_succ]
          refine wpAnyH_take (i := 4) (v := .bool false) rfl (by kernel_rfl) (by kernel_rfl) (by kernel_rfl) (fun _ _ _ h => h) (Or.inl ⟨by rfl, ?_⟩) hHeld ?_
          · intro w' hSw; go_simp
          try simp only [Act.put, List.getElem_toArray, List.getElem_cons_succ, List.getElem_cons_zero, List.setIfInBounds_toArray, List.set_cons_zero, List.set_cons_succ]
          refine wpAnyH_take (i := 5) (v := .bool false) rfl (by kernel_rfl) (by kernel_rfl) (by kernel_rfl) (fun _ _ _ h => h) (Or.inl ⟨by rfl, ?_⟩) hHeld ?_
          · intro w' hSw; go_simp
          try simp only [Act.put, List.getElem_toArray, List.getElem_cons_succ, List.getElem_cons_zero, List.setIfInBounds_toArray, List.set_cons_zero, List.set_cons_succ]
          refine wpAnyH_take (i := 6) (v := .bool false) rfl (by kernel_rfl) (by kernel_rfl) (by kernel_rfl) (fun _ _ _ h => h) (Or.inl ⟨by rfl, ?_⟩) hHeld ?_
          · intro w' hSw; go_simp
          try simp only [Act.put, List.getElem_toArray, List.getElem_cons_succ, List.getElem_cons_zero, List.setIfInBounds_toArray, List.set_cons_zero, List.set_cons_succ]
          refine wpAnyH_take (i := 7) (v := .slice a4 all[i].2.length c4) rfl (by kernel_rfl) (by kernel_rfl) (by kernel_rfl) (fun _ _ _ h => h) (Or.inl ⟨by rfl, ?_⟩) hHeld ?_
          · intro w' hSw; go_simp
          try simp only [Act.put, List.getElem_toArray, List.getElem_cons_succ, List.getElem_cons_zero, List.setIfInBounds_toArray, List.set_cons_zero, List.set_cons_succ]
          refine wpAnyH_take (i := 8) (v := .string ⟨all[i].2.toArray⟩) rfl (by kernel_rfl) (by kernel_rfl) (by kernel_rfl) (fun _ _ _ h => h) (Or.inl ⟨by rfl, ?_⟩) hHeld ?_
          · intro w' hSw; have kx := (hcv w' hSw).1; go_simp
          try simp only [Act.put, List.getElem_toArray, List.getElem_cons_succ, List.getElem_cons_zero, List.setIfInBounds_toArray, List.set_cons_zero, List.set_cons_succ]
          refine wpAnyH_take (i := 9) (v := .slice (some ⟨g, 0, none⟩) all.length ca) rfl (by kernel_rfl) (by kernel_rfl) (by kernel_rfl) (fun _ _ _ h => h) (Or.inl ⟨by rfl, ?_⟩) hHeld ?_
          · intro w' hSw; go_simp
          try simp only [Act.put, List.getElem_toArray, List.getElem_cons_succ, List.getElem_cons_zero, List.setIfInBounds_toArray, List.set_cons_zero, List.set_cons_succ]
          refine wpAnyH_take (i := 10) (v := .int .i64 (i : Int)) rfl (by kernel_rfl) (by kernel_rfl) (by kernel_rfl) (fun _ _ _ h => h) (Or.inl ⟨by rfl, ?_⟩) hHeld ?_
          · intro w' hSw; go_simp
          try simp only [Act.put, List.getElem_toArray, List.getElem_cons_succ, List.getElem_cons_zero, List.setIfInBounds_toArray, List.set_cons_zero, List.set_cons_succ]
          refine wpAnyH_take (i := 11) (v := .pointer (some ⟨g, i * 2, none⟩)) rfl (by kernel_rfl) (by kernel_rfl) (by kernel_rfl) (fun _ _ _ h => h) (Or.inl ⟨by rfl, ?_⟩) hHeld ?_
          · intro w' hSw; go_simp
          try simp only [Act.put, List.getElem_toArray, List.getElem_cons_succ, List.getElem_cons_zero, List.setIfInBounds_toArray, List.set_cons_zero, List.set_cons_succ]
          refine wpAnyH_take (i := 12) (v := .pointer (some ⟨g, i * 2 + 1, none⟩)) rfl (by kernel_rfl) (by kernel_rfl) (by kernel_rfl) (fun _ _ _ h => h) (Or.inl ⟨by rfl, ?_⟩) hHeld ?_
          · intro w' hSw; go_simp
          try simp only [Act.put, List.getElem_toArray, List.getElem_cons_succ, List.getElem_cons_zero, List.setIfInBounds_toArray, List.set_cons_zero, List.set_cons_succ]
          refine wpAnyH_take (i := 13) (v := .slice b2 all[i].2.length d2) rfl (by kernel_rfl) (by kernel_rfl) (by kernel_rfl) (fun _ _ _ h => h) (Or.inl ⟨by rfl, ?_⟩) hHeld ?_
          · intro w' hSw; obtain ⟨k0, k1⟩ := hce w' hSw; go_simp
          try simp only [Act.put, List.getElem_toArray, List.getElem_cons_succ, List.getElem_cons_zero, List.setIfInBounds_toArray, List.set_cons_zero, List.set_cons_succ]
          refine wpAnyH_take (i := 14) (v := .string ⟨all[i].2.toArray⟩) rfl (by kernel_rfl) (by kernel_rfl) (by kernel_rfl) (fun _ _ _ h => h) (Or.inl ⟨by rfl, ?_⟩) hHeld ?_
          · intro w' hSw; have kx := (hcv w' hSw).2.1; go_simp
          try simp only [Act.put, List.getElem_toArray, List.getElem_cons_succ, List.getElem_cons_zero, List.setIfInBounds_toArray, List.set_cons_zero, List.set_cons_succ]
          refine wpAnyH_take (i := 15) (v := .bool false) rfl (by kernel_rfl) (by kernel_rfl) (by kernel_rfl) (fun _ _ _ h => h) (Or.inl ⟨by rfl, ?_⟩) hHeld ?_
          · intro w' hSw; go_simp
          try simp only [Act.put, List.getElem_toArray, List.getElem_cons_succ, List.getElem_cons_zero, List.setIfInBounds_toArray, List.set_cons_zero, List.set_cons_succ]
          refine wpAnyH_take (i := 16) (v := .bool false) rfl (by kernel_rfl) (by kernel_rfl) (by kernel_rfl) (fun _ _ _ h => h) (Or.inl ⟨by rfl, ?_⟩) hHeld ?_
          · intro w' hSw; go_simp
          try simp only [Act.put, List.getElem_toArray, List.getElem_cons_succ, List.getElem_cons_zero, List.setIfInBounds_toArray, List.set_cons_zero, List.set_cons_succ]
          refine wpAnyH_take (i := 17) (v := .bool false) rfl (by kernel_rfl) (by kernel_rfl) (by kernel_rfl) (fun _ _ _ h => h) (Or.inl ⟨by rfl, ?_⟩) hHeld ?_
          · intro w' hSw; go_simp
          try simp only [Act.put, List.getElem_toArray, List.getElem_cons_succ, List.getElem_cons_zero, List.setIfInBounds_toArray, List.set_cons_zero, List.set_cons_succ]
          refine wpAnyH_take (i := 18) (v := .slice (some ⟨g, 0, none⟩) all.length ca) rfl (by kernel_rfl) (by kernel_rfl) (by kernel_rfl) (fun _ _ _ h => h) (Or.inl ⟨by rfl, ?_⟩) hHeld ?_
          · intro w' hSw; go_simp
          try simp only [Act.put, List.getElem_toArray, List.getElem_cons_succ, List.getElem_cons_zero, List.setIfInBounds_toArray, List.set_cons_zero, List.set_cons_succ]
          refine wpAnyH_take (i := 19) (v := .int .i64 (i : Int)) rfl (by kernel_rfl) (by kernel_rfl) (by kernel_rfl) (fun _ _ _ h => h) (Or.inl ⟨by rfl, ?_⟩) hHeld ?_
          · intro w' hSw; go_simp
          try simp only [Act.put, List.getElem_toArray, List.getElem_cons_succ, List.getElem_cons_zero, List.setIfInBounds_toArray, List.set_cons_zero, List.set_cons_succ]
          refine wpAnyH_take (i := 20) (v := .pointer (some ⟨g, i * 2, none⟩)) rfl (by kernel_rfl) (by kernel_rfl) (by kernel_rfl) (fun _ _ _ h => h) (Or.inl ⟨by rfl, ?_⟩) hHeld ?_
          · intro w' hSw; go_simp
          try simp only [Act.put, List.getElem_toArray, List.getElem_cons_succ, List.getElem_cons_zero, List.setIfInBounds_toArray, List.set_cons_zero, List.set_cons_succ]
          refine wpAnyH_take (i := 21) (v := .pointer (some ⟨g, i * 2, none⟩)) rfl (by kernel_rfl) (by kernel_rfl) (by kernel_rfl) (fun _ _ _ h => h) (Or.inl ⟨by rfl, ?_⟩) hHeld ?_
          · intro w' hSw; go_simp
          try simp only [Act.put, List.getElem_toArray, List.getElem_cons_succ, List.getElem_cons_zero, List.setIfInBounds_toArray, List.set_cons_zero, List.set_cons_succ]
          refine wpAnyH_take (i := 22) (v := .slice b1 all[i].1.length d1) rfl (by kernel_rfl) (by kernel_rfl) (by kernel_rfl) (fun _ _ _ h => h) (Or.inl ⟨by rfl, ?_⟩) hHeld ?_
          · intro w' hSw; obtain ⟨k0, k1⟩ := hce w' hSw; go_simp
          try simp only [Act.put, List.getElem_toArray, List.getElem_cons_succ, List.getElem_cons_zero, List.setIfInBounds_toArray, List.set_cons_zero, List.set_cons_succ]
          refine wpAnyH_take (i := 23) (v := .string ⟨all[i].1.toArray⟩) rfl (by kernel_rfl) (by kernel_rfl) (by kernel_rfl) (fun _ _ _ h => h) (Or.inl ⟨by rfl, ?_⟩) hHeld ?_
          · intro w' hSw; have kx := (hcv w' hSw).2.2.1; go_simp
          try simp only [Act.put, List.getElem_toArray, List.getElem_cons_succ, List.getElem_cons_zero, List.setIfInBounds_toArray, List.set_cons_zero, List.set_cons_succ]
          refine wpAnyH_take (i := 24) (v := .slice ak key.length ck) rfl (by kernel_rfl) (by kernel_rfl) (by kernel_rfl) (fun _ _ _ h => h) (Or.inl ⟨by rfl, ?_⟩) hHeld ?_
          · intro w' hSw; go_simp
          try simp only [Act.put, List.getElem_toArray, List.getElem_cons_succ, List.getElem_cons_zero, List.setIfInBounds_toArray, List.set_cons_zero, List.set_cons_succ]
          refine wpAnyH_take (i := 25) (v := .string ⟨key.toArray⟩) rfl (by kernel_rfl) (by kernel_rfl) (by kernel_rfl) (fun _ _ _ h => h) (Or.inl ⟨by rfl, ?_⟩) hHeld ?_
          · intro w' hSw; have kx := (hcv w' hSw).2.2.2.1; go_simp
          try simp only [Act.put, List.getElem_toArray, List.getElem_cons_succ, List.getElem_cons_zero, List.setIfInBounds_toArray, List.set_cons_zero, List.set_cons_succ]
          refine wpAnyH_take (i := 26) (v := .bool false) rfl (by kernel_rfl) (by kernel_rfl) (by kernel_rfl) (fun _ _ _ h => h) (Or.inl ⟨by rfl, ?_⟩) hHeld ?_
          · intro w' hSw; go_simp; exact Hk1.out
          try simp only [Act.put, List.getElem_toArray, List.getElem_cons_succ, List.getElem_cons_zero, List.setIfInBounds_toArray, List.set_cons_zero, List.set_cons_succ]
          refine wpAnyH_take (i := 27) (v := .bool false) rfl (by kernel_rfl) (by kernel_rfl) (by kernel_rfl) (fun _ _ _ h => h) (Or.inl ⟨by rfl, ?_⟩) hHeld ?_
          · intro w' hSw; go_simp
          try simp only [Act.put, List.getElem_toArray, List.getElem_cons_succ, List.getElem_cons_zero, List.setIfInBounds_toArray, List.set_cons_zero, List.set_cons_succ]
          refine wpAnyH_take (i := 28) (v := undef) rfl (by kernel_rfl) (by kernel_rfl) (by kernel_rfl) (fun _ _ _ h => h) (Or.inr ⟨by kernel_rfl, rfl⟩) hHeld ?_
          try simp only [Act.put, List.getElem_toArray, List.getElem_cons_succ, List.getElem_cons_zero, List.setIfInBounds_toArray, List.set_cons_zero, List.set_cons_succ]
          refine wpAnyH_take (i := 29) (v := undef) rfl (by kernel_rfl) (by kernel_rfl) (by kernel_rfl) (fun _ _ _ h => h) (Or.inr ⟨by kernel_rfl, rfl⟩) hHeld ?_
          try simp only [Act.put, List.getElem_toArray, List.getElem_cons_succ, List.getElem_cons_zero, List.setIfInBounds_toArray, List.set_cons_zero, List.set_cons_succ]
          refine wpAnyH_take (i := 30) (v := undef) rfl (by kernel_rfl) (by kernel_rfl) (by kernel_rfl) (fun _ _ _ h => h) (Or.inr ⟨by kernel_rfl, rfl⟩) hHeld ?_
          try simp only [Act.put, List.getElem_toArray, List.getElem_cons_succ, List.getElem_cons_zero, List.setIfInBounds_toArray, List.set_cons_zero, List.set_cons_succ]
          refine wpAnyH_take (i := 31) (v := undef) rfl (by kernel_rfl) (by kernel_rfl) (by kernel_rfl) (fun _ _ _ h => h) (Or.inr ⟨by kernel_rfl, rfl⟩) hHeld ?_
          try simp only [Act.put, List.getElem_toArray, List.getElem_cons_succ, List.getElem_cons_zero, List.setIfInBounds_toArray, List.set_cons_zero, List.set_cons_succ]
          refine wpAnyH_take (i := 32) (v := undef) rfl (by kernel_rfl) (by kernel_rfl) (by kernel_rfl) (fun _ _ _ h => h) (Or.inr ⟨by kernel_rfl, rfl⟩) hHeld ?_
          try simp only [Act.put, List.getElem_toArray, List.getElem_cons_succ, List.getElem_cons_zero, List.setIfInBounds_toArray, List.set_cons_zero, List.set_cons_succ]
          refine wpAnyH_take (i := 33) (v := .bool false) rfl (by kernel_rfl) (by kernel_rfl) (by kernel_rfl) (fun _ _ _ h => h) (Or.inl ⟨by rfl, ?_⟩) hHeld ?_
          · intro w' hSw; go_simp
          try simp only [Act.put, List.getElem_toArray, List.getElem_cons_succ, List.getElem_cons_zero, List.setIfInBounds_toArray, List.set_cons_zero, List.set_cons_succ]
          refine wpAnyH_take (i := 34) (v := .bool false) rfl (by kernel_rfl) (by kernel_rfl) (by kernel_rfl) (fun _ _ _ h => h) (Or.inl ⟨by rfl, ?_⟩) hHeld ?_
          · intro w' hSw; go_simp
          try simp only [Act.put, List.getElem_toArray, List.getElem_cons_succ, List.getElem_cons_zero, List.setIfInBounds_toArray, List.set_cons_zero, List.set_cons_succ]
          refine wpAnyH_done (by kernel_rfl) ?_ _
          clear hHeld
          have HBn := Lib.hid (HB.out.trans (hB7r.mono hsbr))
          clear hB7r
          go_wp2_with fail
          go_roundw
          case rel => exact ⟨i + 1, by omega, by go_num, HBn.out⟩
          case measure => first | (simp [intOf]; done) | (simp [intOf]; omega)
        · have hk5 := Hd5.out.2 hk1
          subst hk5
          have hcv : ∀ w', Below w7.heap.size w7 w' → (convert 30 9 (.slice a4 all[i].2.length c4)).run Try.prog w' = .ok (.string ⟨all[i].2.toArray⟩) w' ∧ (convert 30 9 (.slice b2 all[i].2.length d2)).run Try.prog w' = .ok (.string ⟨all[i].2.toArray⟩) w' ∧ (convert 30 9 (.slice b1 all[i].1.length d1)).run Try.prog w' = .ok (.string ⟨all[i].1.toArray⟩) w' ∧ (convert 30 9 (.slice ak key.length ck)).run Try.prog w' = .ok (.string ⟨key.toArray⟩) w' ∧ (convert 30 9 (.slice a5 all[i].2.length c5)).run Try.prog w' = .ok (.string ⟨all[i].2.toArray⟩) w' := fun w' h => ⟨str (Sl.below H4.out (flat_loc _) h (by omega)), str (Sl.below H1.out (flat_loc _) h (by omega)), str (Sl.below H0.out (flat_loc _) h (by omega)), str (Sl.below Hk7.out (flat_loc _) h hhi7), str (Sl.below H5.out (flat_loc _) h (Nat.le_refl _))⟩
          refine wp_region_held_drew (S := fun w' => Below w7.heap.size w7 w') (by kernel_rfl) hd8 (fun hHeld => ?_)
          refine wpAnyH_take (i := 0) (v := .bool true) rfl (by kernel_rfl) (by kernel_rfl) (by kernel_rfl) (fun _ _ _ h => h) (Or.inl ⟨by rfl, ?_⟩) hHeld ?_
          · intro w' hSw; go_simp
          try simp only [Act.put, List.getElem_toArray, List.getElem_cons_succ, List.getElem_cons_zero, List.setIfInBounds_toArray, List.set_cons_zero, List.set_cons_succ]
          refine wpAnyH_take (i := 1) (v := .bool false) rfl (by kernel_rfl) (by kernel_rfl) (by kernel_rfl) (fun _ _ _ h => h) (Or.inl ⟨by rfl, ?_⟩) hHeld ?_
          · intro w' hSw; go_simp
          try simp only [Act.put, List.getElem_toArray, List.getElem_cons_succ, List.getElem_cons_zero, List.setIfInBounds_toArray, List.set_cons_zero, List.set_cons_succ]
          refine wpAnyH_take (i := 2) (v := .bool false) rfl (by kernel_rfl) (by kernel_rfl) (by kernel_rfl) (fun _ _ _ h => h) (Or.inl ⟨by rfl, ?_⟩) hHeld ?_
          · intro w' hSw; go_simp
          try simp only [Act.put, List.getElem_toArray, List.getElem_cons_succ, List.getElem_cons_zero, List.setIfInBounds_toArray, List.set_cons_zero, List.set_cons_succ]
          refine wpAnyH_take (i := 3) (v := .bool true) rfl (by kernel_rfl) (by kernel_rfl) (by kernel_rfl) (fun _ _ _ h => h) (Or.inl ⟨by rfl, ?_⟩) hHeld ?_
          · intro w' hSw; go_simp
          try simp only [Act.put, List.getElem_toArray, List.getElem_cons_succ, List.getElem_cons_zero, List.setIfInBounds_toArray, List.set_cons_zero, List.set_cons_succ]
          refine wpAnyH_take (i := 4) (v := .bool false) rfl (by kernel_rfl) (by kernel_rfl) (by kernel_rfl) (fun _ _ _ h => h) (Or.inl ⟨by rfl, ?_⟩) hHeld ?_
          · intro w' hSw; go_simp
          try simp only [Act.put, List.getElem_toArray, List.getElem_cons_succ, List.getElem_cons_zero, List.setIfInBounds_toArray, List.set_cons_zero, List.set_cons_succ]
          refine wpAnyH_take (i := 5) (v := .bool false) rfl (by kernel_rfl) (by kernel_rfl) (by kernel_rfl) (fun _ _ _ h => h) (Or.inl ⟨by rfl, ?_⟩) hHeld ?_
          · intro w' hSw; go_simp
          try simp only [Act.put, List.getElem_toArray, List.getElem_cons_succ, List.getElem_cons_zero, List.setIfInBounds_toArray, List.set_cons_zero, List.set_cons_succ]
          refine wpAnyH_take (i := 6) (v := .bool false) rfl (by kernel_rfl) (by kernel_rfl) (by kernel_rfl) (fun _ _ _ h => h) (Or.inl ⟨by rfl, ?_⟩) hHeld ?_
          · intro w' hSw; go_simp
          try simp only [Act.put, List.getElem_toArray, List.getElem_cons_succ, List.getElem_cons_zero, List.setIfInBounds_toArray, List.set_cons_zero, List.set_cons_succ]
          refine wpAnyH_take (i := 7) (v := .slice a4 all[i].2.length c4) rfl (by kernel_rfl) (by kernel_rfl) (by kernel_rfl) (fun _ _ _ h => h) (Or.inl ⟨by rfl, ?_⟩) hHeld ?_
          · intro w' hSw; go_simp
          try simp only [Act.put, List.getElem_toArray, List.getElem_cons_succ, List.getElem_cons_zero, List.setIfInBounds_toArray, List.set_cons_zero, List.set_cons_succ]
          refine wpAnyH_take (i := 8) (v := .string ⟨all[i].2.toArray⟩) rfl (by kernel_rfl) (by kernel_rfl) (by kernel_rfl) (fun _ _ _ h => h) (Or.inl ⟨by rfl, ?_⟩) hHeld ?_
          · intro w' hSw; have kx := (hcv w' hSw).1; go_simp
          try simp only [Act.put, List.getElem_toArray, List.getElem_cons_succ, List.getElem_cons_zero, List.setIfInBounds_toArray, List.set_cons_zero, List.set_cons_succ]
          refine wpAnyH_take (i := 9) (v := .slice (some ⟨g, 0, none⟩) all.length ca) rfl (by kernel_rfl) (by kernel_rfl) (by kernel_rfl) (fun _ _ _ h => h) (Or.inl ⟨by rfl, ?_⟩) hHeld ?_
          · intro w' hSw; go_simp
          try simp only [Act.put, List.getElem_toArray, List.getElem_cons_succ, List.getElem_cons_zero, List.setIfInBounds_toArray, List.set_cons_zero, List.set_cons_succ]
          refine wpAnyH_take (i := 10) (v := .int .i64 (i : Int)) rfl (by kernel_rfl) (by kernel_rfl) (by kernel_rfl) (fun _ _ _ h => h) (Or.inl ⟨by rfl, ?_⟩) hHeld ?_
          · intro w' hSw; go_simp
          try simp only [Act.put, List.getElem_toArray, List.getElem_cons_succ, List.getElem_cons_zero, List.setIfInBounds_toArray, List.set_cons_zero, List.set_cons_succ]
          refine wpAnyH_take (i := 11) (v := .pointer (some ⟨g, i * 2, none⟩)) rfl (by kernel_rfl) (by kernel_rfl) (by kernel_rfl) (fun _ _ _ h => h) (Or.inl ⟨by rfl, ?_⟩) hHeld ?_
          · intro w' hSw; go_simp
          try simp only [Act.put, List.getElem_toArray, List.getElem_cons_succ, List.getElem_cons_zero, List.setIfInBounds_toArray, List.set_cons_zero, List.set_cons_succ]
          refine wpAnyH_take (i := 12) (v := .pointer (some ⟨g, i * 2 + 1, none⟩)) rfl (by kernel_rfl) (by kernel_rfl) (by kernel_rfl) (fun _ _ _ h => h) (Or.inl ⟨by rfl, ?_⟩) hHeld ?_
          · intro w' hSw; go_simp
          try simp only [Act.put, List.getElem_toArray, List.getElem_cons_succ, List.getElem_cons_zero, List.setIfInBounds_toArray, List.set_cons_zero, List.set_cons_succ]
          refine wpAnyH_take (i := 13) (v := .slice b2 all[i].2.length d2) rfl (by kernel_rfl) (by kernel_rfl) (by kernel_rfl) (fun _ _ _ h => h) (Or.inl ⟨by rfl, ?_⟩) hHeld ?_
          · intro w' hSw; obtain ⟨k0, k1⟩ := hce w' hSw; go_simp
          try simp only [Act.put, List.getElem_toArray, List.getElem_cons_succ, List.getElem_cons_zero, List.setIfInBounds_toArray, List.set_cons_zero, List.set_cons_succ]
          refine wpAnyH_take (i := 14) (v := .string ⟨all[i].2.toArray⟩) rfl (by kernel_rfl) (by kernel_rfl) (by kernel_rfl) (fun _ _ _ h => h) (Or.inl ⟨by rfl, ?_⟩) hHeld ?_
          · intro w' hSw; have kx := (hcv w' hSw).2.1; go_simp
          try simp only [Act.put, List.getElem_toArray, List.getElem_cons_succ, List.getElem_cons_zero, List.setIfInBounds_toArray, List.set_cons_zero, List.set_cons_succ]
          refine wpAnyH_take (i := 15) (v := .bool false) rfl (by kernel_rfl) (by kernel_rfl) (by kernel_rfl) (fun _ _ _ h => h) (Or.inl ⟨by rfl, ?_⟩) hHeld ?_
          · intro w' hSw; go_simp
          try simp only [Act.put, List.getElem_toArray, List.getElem_cons_succ, List.getElem_cons_zero, List.setIfInBounds_toArray, List.set_cons_zero, List.set_cons_succ]
          refine wpAnyH_take (i := 16) (v := .bool false) rfl (by kernel_rfl) (by kernel_rfl) (by kernel_rfl) (fun _ _ _ h => h) (Or.inl ⟨by rfl, ?_⟩) hHeld ?_
          · intro w' hSw; go_simp
          try simp only [Act.put, List.getElem_toArray, List.getElem_cons_succ, List.getElem_cons_zero, List.setIfInBounds_toArray, List.set_cons_zero, List.set_cons_succ]
          refine wpAnyH_take (i := 17) (v := .bool false) rfl (by kernel_rfl) (by kernel_rfl) (by kernel_rfl) (fun _ _ _ h => h) (Or.inl ⟨by rfl, ?_⟩) hHeld ?_
          · intro w' hSw; go_simp
          try simp only [Act.put, List.getElem_toArray, List.getElem_cons_succ, List.getElem_cons_zero, List.setIfInBounds_toArray, List.set_cons_zero, List.set_cons_succ]
          refine wpAnyH_take (i := 18) (v := .slice (some ⟨g, 0, none⟩) all.length ca) rfl (by kernel_rfl) (by kernel_rfl) (by kernel_rfl) (fun _ _ _ h => h) (Or.inl ⟨by rfl, ?_⟩) hHeld ?_
          · intro w' hSw; go_simp
          try simp only [Act.put, List.getElem_toArray, List.getElem_cons_succ, List.getElem_cons_zero, List.setIfInBounds_toArray, List.set_cons_zero, List.set_cons_succ]
          refine wpAnyH_take (i := 19) (v := .int .i64 (i : Int)) rfl (by kernel_rfl) (by kernel_rfl) (by kernel_rfl) (fun _ _ _ h => h) (Or.inl ⟨by rfl, ?_⟩) hHeld ?_
          · intro w' hSw; go_simp
          try simp only [Act.put, List.getElem_toArray, List.getElem_cons_succ, List.getElem_cons_zero, List.setIfInBounds_toArray, List.set_cons_zero, List.set_cons_succ]
          refine wpAnyH_take (i := 20) (v := .pointer (some ⟨g, i * 2, none⟩)) rfl (by kernel_rfl) (by kernel_rfl) (by kernel_rfl) (fun _ _ _ h => h) (Or.inl ⟨by rfl, ?_⟩) hHeld ?_
          · intro w' hSw; go_simp
          try simp only [Act.put, List.getElem_toArray, List.getElem_cons_succ, List.getElem_cons_zero, List.setIfInBounds_toArray, List.set_cons_zero, List.set_cons_succ]
          refine wpAnyH_take (i := 21) (v := .pointer (some ⟨g, i * 2, none⟩)) rfl (by kernel_rfl) (by kernel_rfl) (by kernel_rfl) (fun _ _ _ h => h) (Or.inl ⟨by rfl, ?_⟩) hHeld ?_
          · intro w' hSw; go_simp
          try simp only [Act.put, List.getElem_toArray, List.getElem_cons_succ, List.getElem_cons_zero, List.setIfInBounds_toArray, List.set_cons_zero, List.set_cons_succ]
          refine wpAnyH_take (i := 22) (v := .slice b1 all[i].1.length d1) rfl (by kernel_rfl) (by kernel_rfl) (by kernel_rfl) (fun _ _ _ h => h) (Or.inl ⟨by rfl, ?_⟩) hHeld ?_
          · intro w' hSw; obtain ⟨k0, k1⟩ := hce w' hSw; go_simp
          try simp only [Act.put, List.getElem_toArray, List.getElem_cons_succ, List.getElem_cons_zero, List.setIfInBounds_toArray, List.set_cons_zero, List.set_cons_succ]
          refine wpAnyH_take (i := 23) (v := .string ⟨all[i].1.toArray⟩) rfl (by kernel_rfl) (by kernel_rfl) (by kernel_rfl) (fun _ _ _ h => h) (Or.inl ⟨by rfl, ?_⟩) hHeld ?_
          · intro w' hSw; have kx := (hcv w' hSw).2.2.1; go_simp
          try simp only [Act.put, List.getElem_toArray, List.getElem_cons_succ, List.getElem_cons_zero, List.setIfInBounds_toArray, List.set_cons_zero, List.set_cons_succ]
          refine wpAnyH_take (i := 24) (v := .slice ak key.length ck) rfl (by kernel_rfl) (by kernel_rfl) (by kernel_rfl) (fun _ _ _ h => h) (Or.inl ⟨by rfl, ?_⟩) hHeld ?_
          · intro w' hSw; go_simp
          try simp only [Act.put, List.getElem_toArray, List.getElem_cons_succ, List.getElem_cons_zero, List.setIfInBounds_toArray, List.set_cons_zero, List.set_cons_succ]
          refine wpAnyH_take (i := 25) (v := .string ⟨key.toArray⟩) rfl (by kernel_rfl) (by kernel_rfl) (by kernel_rfl) (fun _ _ _ h => h) (Or.inl ⟨by rfl, ?_⟩) hHeld ?_
          · intro w' hSw; have kx := (hcv w' hSw).2.2.2.1; go_simp
          try simp only [Act.put, List.getElem_toArray, List.getElem_cons_succ, List.getElem_cons_zero, List.setIfInBounds_toArray, List.set_cons_zero, List.set_cons_succ]
          refine wpAnyH_take (i := 26) (v := .bool true) rfl (by kernel_rfl) (by kernel_rfl) (by kernel_rfl) (fun _ _ _ h => h) (Or.inl ⟨by rfl, ?_⟩) hHeld ?_
          · intro w' hSw; go_simp
          try simp only [Act.put, List.getElem_toArray, List.getElem_cons_succ, List.getElem_cons_zero, List.setIfInBounds_toArray, List.set_cons_zero, List.set_cons_succ]
          refine wpAnyH_take (i := 27) (v := .bool true) rfl (by kernel_rfl) (by kernel_rfl) (by kernel_rfl) (fun _ _ _ h => h) (Or.inl ⟨by rfl, ?_⟩) hHeld ?_
          · intro w' hSw; go_simp
          try simp only [Act.put, List.getElem_toArray, List.getElem_cons_succ, List.getElem_cons_zero, List.setIfInBounds_toArray, List.set_cons_zero, List.set_cons_succ]
          refine wpAnyH_take (i := 28) (v := .slice a5 all[i].2.length c5) rfl (by kernel_rfl) (by kernel_rfl) (by kernel_rfl) (fun _ _ _ h => h) (Or.inl ⟨by rfl, ?_⟩) hHeld ?_
          · intro w' hSw; go_simp
          try simp only [Act.put, List.getElem_toArray, List.getElem_cons_succ, List.getElem_cons_zero, List.setIfInBounds_toArray, List.set_cons_zero, List.set_cons_succ]
          refine wpAnyH_take (i := 29) (v := .string ⟨all[i].2.toArray⟩) rfl (by kernel_rfl) (by kernel_rfl) (by kernel_rfl) (fun _ _ _ h => h) (Or.inl ⟨by rfl, ?_⟩) hHeld ?_
          · intro w' hSw; have kx := (hcv w' hSw).2.2.2.2; go_simp
          try simp only [Act.put, List.getElem_toArray, List.getElem_cons_succ, List.getElem_cons_zero, List.setIfInBounds_toArray, List.set_cons_zero, List.set_cons_succ]
          refine wpAnyH_take (i := 30) (v := .slice a4 all[i].2.length c4) rfl (by kernel_rfl) (by kernel_rfl) (by kernel_rfl) (fun _ _ _ h => h) (Or.inl ⟨by rfl, ?_⟩) hHeld ?_
          · intro w' hSw; go_simp
          try simp only [Act.put, List.getElem_toArray, List.getElem_cons_succ, List.getElem_cons_zero, List.setIfInBounds_toArray, List.set_cons_zero, List.set_cons_succ]
          refine wpAnyH_take (i := 31) (v := .string ⟨all[i].2.toArray⟩) rfl (by kernel_rfl) (by kernel_rfl) (by kernel_rfl) (fun _ _ _ h => h) (Or.inl ⟨by rfl, ?_⟩) hHeld ?_
          · intro w' hSw; have kx := (hcv w' hSw).1; go_simp
          try simp only [Act.put, List.getElem_toArray, List.getElem_cons_succ, List.getElem_cons_zero, List.setIfInBounds_toArray, List.set_cons_zero, List.set_cons_succ]
          refine wpAnyH_take (i := 32) (v := .bool false) rfl (by kernel_rfl) (by kernel_rfl) (by kernel_rfl) (fun _ _ _ h => h) (Or.inl ⟨by rfl, ?_⟩) hHeld ?_
          · intro w' hSw; go_simp
          try simp only [Act.put, List.getElem_toArray, List.getElem_cons_succ, List.getElem_cons_zero, List.setIfInBounds_toArray, List.set_cons_zero, List.set_cons_succ]
          refine wpAnyH_take (i := 33) (v := .bool false) rfl (by kernel_rfl) (by kernel_rfl) (by kernel_rfl) (fun _ _ _ h => h) (Or.inl ⟨by rfl, ?_⟩) hHeld ?_
          · intro w' hSw; go_simp
          try simp only [Act.put, List.getElem_toArray, List.getElem_cons_succ, List.getElem_cons_zero, List.setIfInBounds_toArray, List.set_cons_zero, List.set_cons_succ]
          refine wpAnyH_take (i := 34) (v := .bool false) rfl (by kernel_rfl) (by kernel_rfl) (by kernel_rfl) (fun _ _ _ h => h) (Or.inl ⟨by rfl, ?_⟩) hHeld ?_
          · intro w' hSw; go_simp
          try simp only [Act.put, List.getElem_toArray, List.getElem_cons_succ, List.getElem_cons_zero, List.setIfInBounds_toArray, List.set_cons_zero, List.set_cons_succ]
          refine wpAnyH_done (by kernel_rfl) ?_ _
          clear hHeld
          have HBn := Lib.hid (HB.out.trans (hB7r.mono hsbr))
          clear hB7r
          go_wp2_with fail
          go_roundw
          case rel => exact ⟨i + 1, by omega, by go_num, HBn.out⟩
          case measure => first | (simp [intOf]; done) | (simp [intOf]; omega)
      · go_wp2_with fail
        refine Get_u w1.heap.size lo hi 100 t key _ _ wr hs1r Htr.out Hkr.out Hg2.out d0 false Hd0.out Hb0.out _ (fun w6 a6 c6 hB6 hb6 => ?_)
        have hs6 := hB6.size
        have hr := HR.out w6 (HB9.out.trans ((HB.out.trans (hB6.mono hsbr)).mono HB9.out.size))
        have Ht6 := Lib.hid (Htr.out.step (Nn.lt _) hs1r hB6)
        have Hu6 := Lib.hid (Hur.out.step (Nn.lt _) hs1r hB6)
        have c1 := str hb6
        have c2 := str (Sl.below Hold.out (flat_loc _) (HB.out.trans (hB6.mono hsbr)) hold9)
        clear hB6 hb6
        go_wp2_with fail
        refine Len_any Nn w1.heap.size t _ w6 Ht6.out _ ?_
        rw [← Hlen.out]
        go_wp2_with fail
        refine Len_any Nn w1.heap.size u _ w6 Hu6.out _ ?_
        rw [Hulen.out]
        go_wp2_with fail
        first | exact hr | exact fin hr rfl
  | true =>
    go_wp2_with fail
    refine equal_same w1.heap.size 101 100 c back _ _ w8 hs18 Hc8.out Hbk.out Hgc.out Hgbk.out (by omega) (by omega) Hcb.out _ (fun w9 hB9 => ?_)
    have hs89 := hB9.size
    have Ht9 := Lib.hid (Ht8.out.step (Nn.lt _) hs18 hB9)
    have Hu9 := Lib.hid (Hu8.out.step (Nn.lt _) hs18 hB9)
    have HP9 := Lib.hid (HP8.out.below hB9)
    have Hk9 := Lib.hid (Sl.below Hk8.out (flat_loc _) hB9 hhi8)
    have Hold := Lib.hid (Sl.below Ho8.out (flat_loc _) hB9 ho8)
    have HB9 := Lib.hid (HB8.out.trans (hB9.mono HB8.out.size))
    have hs19 : w1.heap.size ≤ w9.heap.size := Nat.le_trans hs18 hs89
    have hhi9 : hi ≤ w9.heap.size := Nat.le_trans hhi8 hs89
    have hold9 : w4.heap.size ≤ w9.heap.size := Nat.le_trans ho8 hs89
    clear hB9 Hc8 Hbk Ht8 Hu8 HP8 Hk8 Ho8 HB8
    go_wp2_with fail
    go_loopw [113] (fun t113 wr => ∃ i : Nat, i ≤ all.length ∧ t113 = .int .i64 (i : Int) ∧ Below w9.heap.size w9 wr) (fun t113 _ => all.length - (intOf t113).toNat)
    case atStart => exact ⟨0, Nat.zero_le _, rfl, Below.refl _ _⟩
    case round =>
      obtain ⟨i, hil, rfl, hB⟩ := hrel
      have HB := Lib.hid hB
      have hsbr := hB.size
      have Htr := Lib.hid (Ht9.out.step (Nn.lt _) hs19 hB)
      have Hur := Lib.hid (Hu9.out.step (Nn.lt _) hs19 hB)
      have HPr := Lib.hid (HP9.out.below hB)
      have Hkr := Lib.hid (Sl.below Hk9.out (flat_loc _) hB hhi9)
      have hs1r : w1.heap.size ≤ wr.heap.size := Nat.le_trans hs19 hsbr
      have hhir : hi ≤ wr.heap.size := Nat.le_trans hhi9 hsbr
      have i0 : (0 : Int) ≤ (i : Int) := by omega
      clear hB
      by_cases hi2 : i < all.length
      · have il : (i : Int) < (all.length : Int) := by omega
        obtain ⟨g, b1, d1, b2, d2, rfl, hg8, g0, g1, hg0, hg1⟩ := HPr.out.at i hi2
        have Hg0 := Lib.hid hg0
        have Hg1 := Lib.hid hg1
        have ga : getL all[i].1 t.toL = some all[i].2 := by rw [← Heall.out]; exact getL_self _ Hri.out _ (List.getElem_mem hi2)
        have Hga := Lib.hid ga
        clear hg0 hg1 ga
        go_wp2_with fail
        refine Get_u w1.heap.size w2.heap.size wr.heap.size 100 t all[i].1 _ _ wr hs1r Htr.out Hg0.out Hg2.out all[i].2 true (by rw [Hga.out]; rfl) (by rw [Hga.out]; rfl) _ (fun w6 a4 c4 hB6 hb4 => ?_)
        have hs6 := hB6.size
        have Hu6 := Lib.hid (Hur.out.step (Nn.lt _) hs1r hB6)
        have Hb4 := Lib.hid hb4
        have g06 := (World.cell?_of_block (hB6.block g hg8)).trans g0
        have HB6 := Lib.hid hB6
        have hs1r6 : w1.heap.size ≤ w6.heap.size := Nat.le_trans hs1r hs6
        clear hb4 hB6
        go_wp2_with fail
        obtain ⟨d5, hd5⟩ : ∃ d5, getL all[i].1 u.toL = some d5 ∧ (all[i].1 ≠ key → d5 = all[i].2) := by
          rw [Hul.out]
          by_cases he : all[i].1 = key
          · exact ⟨value, by rw [he, getL_insL], fun h => absurd he h⟩
          · exact ⟨all[i].2, by rw [getL_insL_ne _ _ _ (fun h => he (cmpB_eq _ _ h)), Hga.out], fun _ => rfl⟩
        have Hd5 := Lib.hid hd5
        clear hd5
        refine Get_u w1.heap.size w2.heap.size wr.heap.size 101 u all[i].1 _ _ w6 hs1r6 Hu6.out (Sl.below Hg0.out (flat_loc _) HB6.out (Nat.le_refl _)) Hgu.out d5 true (by rw [Hd5.out.1]; rfl) (by rw [Hd5.out.1]; rfl) _ (fun w7 a5 c5 hB7 hb5 => ?_)
        have hs7 := hB7.size
        have hB7r := HB6.out.trans (hB7.mono hs6)
        have H4 := Lib.hid (Sl.below Hb4.out (flat_loc _) hB7 (Nat.le_refl _))
        have H5 := Lib.hid hb5
        have hk7 := Sl.below Hkr.out (flat_loc _) hB7r hhir
        have Hk7 := Lib.hid hk7
        have H0 := Lib.hid (Sl.below Hg0.out (flat_loc _) hB7r (Nat.le_refl _))
        have H1 := Lib.hid (Sl.below Hg1.out (flat_loc _) hB7r (Nat.le_refl _))
        have hd8 : Below w7.heap.size w7 w7.drew := Below.drew (Below.refl _ _)
        have hhi7 : hi ≤ w7.heap.size := by omega
        have hce : ∀ w', Below w7.heap.size w7 w' → w'.cell? ⟨g, i * 2, none⟩ = some (.slice b1 all[i].1.length d1) ∧ w'.cell? ⟨g, i * 2 + 1, none⟩ = some (.slice b2 all[i].2.length d2) := fun w' h => by
          have h9 := hB7r.trans (h.mono (Nat.le_trans hs6 hs7))
          exact ⟨(World.cell?_of_block (h9.block g hg8)).trans g0, (World.cell?_of_block (h9.block g hg8)).trans g1⟩
        replace hB7r := hB7r.drew
        clear hB7 hb5 hk7 g0 g1 g06
        go_wp2_with fail
        by_cases hk1 : all[i].1 = key
        · have Hk1 := Lib.hid hk1
          clear hk1
          have hcv : ∀ w', Below w7.heap.size w7 w' → (convert 30 9 (.slice a4 all[i].2.length c4)).run Try.prog w' = .ok (.string ⟨all[i].2.toArray⟩) w' ∧ (convert 30 9 (.slice b2 all[i].2.length d2)).run Try.prog w' = .ok (.string ⟨all[i].2.toArray⟩) w' ∧ (convert 30 9 (.slice b1 all[i].1.length d1)).run Try.prog w' = .ok (.string ⟨all[i].1.toArray⟩) w' ∧ (convert 30 9 (.slice ak key.length ck)).run Try.prog w' = .ok (.string ⟨key.toArray⟩) w' ∧ True := fun w' h => ⟨str (Sl.below H4.out (flat_loc _) h (by omega)), str (Sl.below H1.out (flat_loc _) h (by omega)), str (Sl.below H0.out (flat_loc _) h (by omega)), str (Sl.below Hk7.out (flat_loc _) h hhi7), trivial⟩
          refine wp_region_held_drew (S := fun w' => Below w7.heap.size w7 w') (by kernel_rfl) hd8 (fun hHeld => ?_)
          refine wpAnyH_take (i := 0) (v := .bool true) rfl (by kernel_rfl) (by kernel_rfl) (by kernel_rfl) (fun _ _ _ h => h) (Or.inl ⟨by rfl, ?_⟩) hHeld ?_
          · intro w' hSw; go_simp
          try simp only [Act.put, List.getElem_toArray, List.getElem_cons_succ, List.getElem_cons_zero, List.setIfInBounds_toArray, List.set_cons_zero, List.set_cons_succ]
          refine wpAnyH_take (i := 1) (v := .bool false) rfl (by kernel_rfl) (by kernel_rfl) (by kernel_rfl) (fun _ _ _ h => h) (Or.inl ⟨by rfl, ?_⟩) hHeld ?_
          · intro w' hSw; go_simp
          try simp only [Act.put, List.getElem_toArray, List.getElem_cons_succ, List.getElem_cons_zero, List.setIfInBounds_toArray, List.set_cons_zero, List.set_cons_succ]
          refine wpAnyH_take (i := 2) (v := .bool false) rfl (by kernel_rfl) (by kernel_rfl) (by kernel_rfl) (fun _ _ _ h => h) (Or.inl ⟨by rfl, ?_⟩) hHeld ?_
          · intro w' hSw; go_simp
          try simp only [Act.put, List.getElem_toArray, List.getElem_cons_succ, List.getElem_cons_zero, List.setIfInBounds_toArray, List.set_cons_zero, List.set_cons_succ]
          refine wpAnyH_take (i := 3) (v := .bool true) rfl (by kernel_rfl) (by kernel_rfl) (by kernel_rfl) (fun _ _ _ h => h) (Or.inl ⟨by rfl, ?_⟩) hHeld ?_
          · intro w' hSw; go_simp
          try simp only [Act.put, List.getElem_toArray, List.getElem_cons_succ, List.getElem_cons_zero, List.setIfInBounds_toArray, List.set_cons_zero, List.set_cons_succ]
          refine wpAnyH_take (i := 4) (v := .bool false) rfl (by kernel_rfl) (by kernel_rfl) (by kernel_rfl) (fun _ _ _ h => h) (Or.inl ⟨by rfl, ?_⟩) hHeld ?_
          · intro w' hSw; go_simp
          try simp only [Act.put, List.getElem_toArray, List.getElem_cons_succ, List.getElem_cons_zero, List.setIfInBounds_toArray, List.set_cons_zero, List.set_cons_succ]
          refine wpAnyH_take (i := 5) (v := .bool false) rfl (by kernel_rfl) (by kernel_rfl) (by kernel_rfl) (fun _ _ _ h => h) (Or.inl ⟨by rfl, ?_⟩) hHeld ?_
          · intro w' hSw; go_simp
          try simp only [Act.put, List.getElem_toArray, List.getElem_cons_succ, List.getElem_cons_zero, List.setIfInBounds_toArray, List.set_cons_zero, List.set_cons_succ]
          refine wpAnyH_take (i := 6) (v := .bool false) rfl (by kernel_rfl) (by kernel_rfl) (by kernel_rfl) (fun _ _ _ h => h) (Or.inl ⟨by rfl, ?_⟩) hHeld ?_
          · intro w' hSw; go_simp
          try simp only [Act.put, List.getElem_toArray, List.getElem_cons_succ, List.getElem_cons_zero, List.setIfInBounds_toArray, List.set_cons_zero, List.set_cons_succ]
          refine wpAnyH_take (i := 7) (v := .slice a4 all[i].2.length c4) rfl (by kernel_rfl) (by kernel_rfl) (by kernel_rfl) (fun _ _ _ h => h) (Or.inl ⟨by rfl, ?_⟩) hHeld ?_
          · intro w' hSw; go_simp
          try simp only [Act.put, List.getElem_toArray, List.getElem_cons_succ, List.getElem_cons_zero, List.setIfInBounds_toArray, List.set_cons_zero, List.set_cons_succ]
          refine wpAnyH_take (i := 8) (v := .string ⟨all[i].2.toArray⟩) rfl (by kernel_rfl) (by kernel_rfl) (by kernel_rfl) (fun _ _ _ h => h) (Or.inl ⟨by rfl, ?_⟩) hHeld ?_
          · intro w' hSw; have kx := (hcv w' hSw).1; go_simp
          try simp only [Act.put, List.getElem_toArray, List.getElem_cons_succ, List.getElem_cons_zero, List.setIfInBounds_toArray, List.set_cons_zero, List.set_cons_succ]
          refine wpAnyH_take (i := 9) (v := .slice (some ⟨g, 0, none⟩) all.length ca) rfl (by kernel_rfl) (by kernel_rfl) (by kernel_rfl) (fun _ _ _ h => h) (Or.inl ⟨by rfl, ?_⟩) hHeld ?_
          · intro w' hSw; go_simp
          try simp only [Act.put, List.getElem_toArray, List.getElem_cons_succ, List.getElem_cons_zero, List.setIfInBounds_toArray, List.set_cons_zero, List.set_cons_succ]
          refine wpAnyH_take (i := 10) (v := .int .i64 (i : Int)) rfl (by kernel_rfl) (by kernel_rfl) (by kernel_rfl) (fun _ _ _ h => h) (Or.inl ⟨by rfl, ?_⟩) hHeld ?_
          · intro w' hSw; go_simp
          try simp only [Act.put, List.getElem_toArray, List.getElem_cons_succ, List.getElem_cons_zero, List.setIfInBounds_toArray, List.set_cons_zero, List.set_cons_succ]
          refine wpAnyH_take (i := 11) (v := .pointer (some ⟨g, i * 2, none⟩)) rfl (by kernel_rfl) (by kernel_rfl) (by kernel_rfl) (fun _ _ _ h => h) (Or.inl ⟨by rfl, ?_⟩) hHeld ?_
          · intro w' hSw; go_simp
          try simp only [Act.put, List.getElem_toArray, List.getElem_cons_succ, List.getElem_cons_zero, List.setIfInBounds_toArray, List.set_cons_zero, List.set_cons_succ]
          refine wpAnyH_take (i := 12) (v := .pointer (some ⟨g, i * 2 + 1, none⟩)) rfl (by kernel_rfl) (by kernel_rfl) (by kernel_rfl) (fun _ _ _ h => h) (Or.inl ⟨by rfl, ?_⟩) hHeld ?_
          · intro w' hSw; go_simp
          try simp only [Act.put, List.getElem_toArray, List.getElem_cons_succ, List.getElem_cons_zero, List.setIfInBounds_toArray, List.set_cons_zero, List.set_cons_succ]
          refine wpAnyH_take (i := 13) (v := .slice b2 all[i].2.length d2) rfl (by kernel_rfl) (by kernel_rfl) (by kernel_rfl) (fun _ _ _ h => h) (Or.inl ⟨by rfl, ?_⟩) hHeld ?_
          · intro w' hSw; obtain ⟨k0, k1⟩ := hce w' hSw; go_simp
          try simp only [Act.put, List.getElem_toArray, List.getElem_cons_succ, List.getElem_cons_zero, List.setIfInBounds_toArray, List.set_cons_zero, List.set_cons_succ]
          refine wpAnyH_take (i := 14) (v := .string ⟨all[i].2.toArray⟩) rfl (by kernel_rfl) (by kernel_rfl) (by kernel_rfl) (fun _ _ _ h => h) (Or.inl ⟨by rfl, ?_⟩) hHeld ?_
          · intro w' hSw; have kx := (hcv w' hSw).2.1; go_simp
          try simp only [Act.put, List.getElem_toArray, List.getElem_cons_succ, List.getElem_cons_zero, List.setIfInBounds_toArray, List.set_cons_zero, List.set_cons_succ]
          refine wpAnyH_take (i := 15) (v := .bool false) rfl (by kernel_rfl) (by kernel_rfl) (by kernel_rfl) (fun _ _ _ h => h) (Or.inl ⟨by rfl, ?_⟩) hHeld ?_
          · intro w' hSw; go_simp
          try simp only [Act.put, List.getElem_toArray, List.getElem_cons_succ, List.getElem_cons_zero, List.setIfInBounds_toArray, List.set_cons_zero, List.set_cons_succ]
          refine wpAnyH_take (i := 16) (v := .bool false) rfl (by kernel_rfl) (by kernel_rfl) (by kernel_rfl) (fun _ _ _ h => h) (Or.inl ⟨by rfl, ?_⟩) hHeld ?_
          · intro w' hSw; go_simp
          try simp only [Act.put, List.getElem_toArray, List.getElem_cons_succ, List.getElem_cons_zero, List.setIfInBounds_toArray, List.set_cons_zero, List.set_cons_succ]
          refine wpAnyH_take (i := 17) (v := .bool false) rfl (by kernel_rfl) (by kernel_rfl) (by kernel_rfl) (fun _ _ _ h => h) (Or.inl ⟨by rfl, ?_⟩) hHeld ?_
          · intro w' hSw; go_simp
          try simp only [Act.put, List.getElem_toArray, List.getElem_cons_succ, List.getElem_cons_zero, List.setIfInBounds_toArray, List.set_cons_zero, List.set_cons_succ]
          refine wpAnyH_take (i := 18) (v := .slice (some ⟨g, 0, none⟩) all.length ca) rfl (by kernel_rfl) (by kernel_rfl) (by kernel_rfl) (fun _ _ _ h => h) (Or.inl ⟨by rfl, ?_⟩) hHeld ?_
          · intro w' hSw; go_simp
          try simp only [Act.put, List.getElem_toArray, List.getElem_cons_succ, List.getElem_cons_zero, List.setIfInBounds_toArray, List.set_cons_zero, List.set_cons_succ]
          refine wpAnyH_take (i := 19) (v := .int .i64 (i : Int)) rfl (by kernel_rfl) (by kernel_rfl) (by kernel_rfl) (fun _ _ _ h => h) (Or.inl ⟨by rfl, ?_⟩) hHeld ?_
          · intro w' hSw; go_simp
          try simp only [Act.put, List.getElem_toArray, List.getElem_cons_succ, List.getElem_cons_zero, List.setIfInBounds_toArray, List.set_cons_zero, List.set_cons_succ]
          refine wpAnyH_take (i := 20) (v := .pointer (some ⟨g, i * 2, none⟩)) rfl (by kernel_rfl) (by kernel_rfl) (by kernel_rfl) (fun _ _ _ h => h) (Or.inl ⟨by rfl, ?_⟩) hHeld ?_
          · intro w' hSw; go_simp
          try simp only [Act.put, List.getElem_toArray, List.getElem_cons_succ, List.getElem_cons_zero, List.setIfInBounds_toArray, List.set_cons_zero, List.set_cons_succ]
          refine wpAnyH_take (i := 21) (v := .pointer (some ⟨g, i * 2, none⟩)) rfl (by kernel_rfl) (by kernel_rfl) (by kernel_rfl) (fun _ _ _ h => h) (Or.inl ⟨by rfl, ?_⟩) hHeld ?_
          · intro w' hSw; go_simp
          try simp only [Act.put, List.getElem_toArray, List.getElem_cons_succ, List.getElem_cons_zero, List.setIfInBounds_toArray, List.set_cons_zero, List.set_cons_succ]
          refine wpAnyH_take (i := 22) (v := .slice b1 all[i].1.length d1) rfl (by kernel_rfl) (by kernel_rfl) (by kernel_rfl) (fun _ _ _ h => h) (Or.inl ⟨by rfl, ?_⟩) hHeld ?_
          · intro w' hSw; obtain ⟨k0, k1⟩ := hce w' hSw; go_simp
          try simp only [Act.put, List.getElem_toArray, List.getElem_cons_succ, List.getElem_cons_zero, List.setIfInBounds_toArray, List.set_cons_zero, List.set_cons_succ]
          refine wpAnyH_take (i := 23) (v := .string ⟨all[i].1.toArray⟩) rfl (by kernel_rfl) (by kernel_rfl) (by kernel_rfl) (fun _ _ _ h => h) (Or.inl ⟨by rfl, ?_⟩) hHeld ?_
          · intro w' hSw; have kx := (hcv w' hSw).2.2.1; go_simp
          try simp only [Act.put, List.getElem_toArray, List.getElem_cons_succ, List.getElem_cons_zero, List.setIfInBounds_toArray, List.set_cons_zero, List.set_cons_succ]
          refine wpAnyH_take (i := 24) (v := .slice ak key.length ck) rfl (by kernel_rfl) (by kernel_rfl) (by kernel_rfl) (fun _ _ _ h => h) (Or.inl ⟨by rfl, ?_⟩) hHeld ?_
          · intro w' hSw; go_simp
          try simp only [Act.put, List.getElem_toArray, List.getElem_cons_succ, List.getElem_cons_zero, List.setIfInBounds_toArray, List.set_cons_zero, List.set_cons_succ]
          refine wpAnyH_take (i := 25) (v := .string ⟨key.toArray⟩) rfl (by kernel_rfl) (by kernel_rfl) (by kernel_rfl) (fun _ _ _ h => h) (Or.inl ⟨by rfl, ?_⟩) hHeld ?_
          · intro w' hSw; have kx := (hcv w' hSw).2.2.2.1; go_simp
          try simp only [Act.put, List.getElem_toArray, List.getElem_cons_succ, List.getElem_cons_zero, List.setIfInBounds_toArray, List.set_cons_zero, List.set_cons_succ]
          refine wpAnyH_take (i := 26) (v := .bool false) rfl (by kernel_rfl) (by kernel_rfl) (by kernel_rfl) (fun _ _ _ h => h) (Or.inl ⟨by rfl, ?_⟩) hHeld ?_
          · intro w' hSw; go_simp; exact Hk1.out
          try simp only [Act.put, List.getElem_toArray, List.getElem_cons_succ, List.getElem_cons_zero, List.setIfInBounds_toArray, List.set_cons_zero, List.set_cons_succ]
          refine wpAnyH_take (i := 27) (v := .bool false) rfl (by kernel_rfl) (by kernel_rfl) (by kernel_rfl) (fun _ _ _ h => h) (Or.inl ⟨by rfl, ?_⟩) hHeld ?_
          · intro w' hSw; go_simp
          try simp only [Act.put, List.getElem_toArray, List.getElem_cons_succ, List.getElem_cons_zero, List.setIfInBounds_toArray, List.set_cons_zero, List.set_cons_succ]
          refine wpAnyH_take (i := 28) (v := undef) rfl (by kernel_rfl) (by kernel_rfl) (by kernel_rfl) (fun _ _ _ h => h) (Or.inr ⟨by kernel_rfl, rfl⟩) hHeld ?_
          try simp only [Act.put, List.getElem_toArray, List.getElem_cons_succ, List.getElem_cons_zero, List.setIfInBounds_toArray, List.set_cons_zero, List.set_cons_succ]
          refine wpAnyH_take (i := 29) (v := undef) rfl (by kernel_rfl) (by kernel_rfl) (by kernel_rfl) (fun _ _ _ h => h) (Or.inr ⟨by kernel_rfl, rfl⟩) hHeld ?_
          try simp only [Act.put, List.getElem_toArray, List.getElem_cons_succ, List.getElem_cons_zero, List.setIfInBounds_toArray, List.set_cons_zero, List.set_cons_succ]
          refine wpAnyH_take (i := 30) (v := undef) rfl (by kernel_rfl) (by kernel_rfl) (by kernel_rfl) (fun _ _ _ h => h) (Or.inr ⟨by kernel_rfl, rfl⟩) hHeld ?_
          try simp only [Act.put, List.getElem_toArray, List.getElem_cons_succ, List.getElem_cons_zero, List.setIfInBounds_toArray, List.set_cons_zero, List.set_cons_succ]
          refine wpAnyH_take (i := 31) (v := undef) rfl (by kernel_rfl) (by kernel_rfl) (by kernel_rfl) (fun _ _ _ h => h) (Or.inr ⟨by kernel_rfl, rfl⟩) hHeld ?_
          try simp only [Act.put, List.getElem_toArray, List.getElem_cons_succ, List.getElem_cons_zero, List.setIfInBounds_toArray, List.set_cons_zero, List.set_cons_succ]
          refine wpAnyH_take (i := 32) (v := undef) rfl (by kernel_rfl) (by kernel_rfl) (by kernel_rfl) (fun _ _ _ h => h) (Or.inr ⟨by kernel_rfl, rfl⟩) hHeld ?_
          try simp only [Act.put, List.getElem_toArray, List.getElem_cons_succ, List.getElem_cons_zero, List.setIfInBounds_toArray, List.set_cons_zero, List.set_cons_succ]
          refine wpAnyH_take (i := 33) (v := .bool false) rfl (by kernel_rfl) (by kernel_rfl) (by kernel_rfl) (fun _ _ _ h => h) (Or.inl ⟨by rfl, ?_⟩) hHeld ?_
          · intro w' hSw; go_simp
          try simp only [Act.put, List.getElem_toArray, List.getElem_cons_succ, List.getElem_cons_zero, List.setIfInBounds_toArray, List.set_cons_zero, List.set_cons_succ]
          refine wpAnyH_take (i := 34) (v := .bool false) rfl (by kernel_rfl) (by kernel_rfl) (by kernel_rfl) (fun _ _ _ h => h) (Or.inl ⟨by rfl, ?_⟩) hHeld ?_
          · intro w' hSw; go_simp
          try simp only [Act.put, List.getElem_toArray, List.getElem_cons_succ, List.getElem_cons_zero, List.setIfInBounds_toArray, List.set_cons_zero, List.set_cons_succ]
          refine wpAnyH_done (by kernel_rfl) ?_ _
          clear hHeld
          have HBn := Lib.hid (HB.out.trans (hB7r.mono hsbr))
          clear hB7r
          go_wp2_with fail
          go_roundw
          case rel => exact ⟨i + 1, by omega, by go_num, HBn.out⟩
          case measure => first | (simp [intOf]; done) | (simp [intOf]; omega)
        · have hk5 := Hd5.out.2 hk1
          subst hk5
          have hcv : ∀ w', Below w7.heap.size w7 w' → (convert 30 9 (.slice a4 all[i].2.length c4)).run Try.prog w' = .ok (.string ⟨all[i].2.toArray⟩) w' ∧ (convert 30 9 (.slice b2 all[i].2.length d2)).run Try.prog w' = .ok (.string ⟨all[i].2.toArray⟩) w' ∧ (convert 30 9 (.slice b1 all[i].1.length d1)).run Try.prog w' = .ok (.string ⟨all[i].1.toArray⟩) w' ∧ (convert 30 9 (.slice ak key.length ck)).run Try.prog w' = .ok (.string ⟨key.toArray⟩) w' ∧ (convert 30 9 (.slice a5 all[i].2.length c5)).run Try.prog w' = .ok (.string ⟨all[i].2.toArray⟩) w' := fun w' h => ⟨str (Sl.below H4.out (flat_loc _) h (by omega)), str (Sl.below H1.out (flat_loc _) h (by omega)), str (Sl.below H0.out (flat_loc _) h (by omega)), str (Sl.below Hk7.out (flat_loc _) h hhi7), str (Sl.below H5.out (flat_loc _) h (Nat.le_refl _))⟩
          refine wp_region_held_drew (S := fun w' => Below w7.heap.size w7 w') (by kernel_rfl) hd8 (fun hHeld => ?_)
          refine wpAnyH_take (i := 0) (v := .bool true) rfl (by kernel_rfl) (by kernel_rfl) (by kernel_rfl) (fun _ _ _ h => h) (Or.inl ⟨by rfl, ?_⟩) hHeld ?_
          · intro w' hSw; go_simp
          try simp only [Act.put, List.getElem_toArray, List.getElem_cons_succ, List.getElem_cons_zero, List.setIfInBounds_toArray, List.set_cons_zero, List.set_cons_succ]
          refine wpAnyH_take (i := 1) (v := .bool false) rfl (by kernel_rfl) (by kernel_rfl) (by kernel_rfl) (fun _ _ _ h => h) (Or.inl ⟨by rfl, ?_⟩) hHeld ?_
          · intro w' hSw; go_simp
          try simp only [Act.put, List.getElem_toArray, List.getElem_cons_succ, List.getElem_cons_zero, List.setIfInBounds_toArray, List.set_cons_zero, List.set_cons_succ]
          refine wpAnyH_take (i := 2) (v := .bool false) rfl (by kernel_rfl) (by kernel_rfl) (by kernel_rfl) (fun _ _ _ h => h) (Or.inl ⟨by rfl, ?_⟩) hHeld ?_
          · intro w' hSw; go_simp
          try simp only [Act.put, List.getElem_toArray, List.getElem_cons_succ, List.getElem_cons_zero, List.setIfInBounds_toArray, List.set_cons_zero, List.set_cons_succ]
          refine wpAnyH_take (i := 3) (v := .bool true) rfl (by kernel_rfl) (by kernel_rfl) (by kernel_rfl) (fun _ _ _ h => h) (Or.inl ⟨by rfl, ?_⟩) hHeld ?_
          · intro w' hSw; go_simp
          try simp only [Act.put, List.getElem_toArray, List.getElem_cons_succ, List.getElem_cons_zero, List.setIfInBounds_toArray, List.set_cons_zero, List.set_cons_succ]
          refine wpAnyH_take (i := 4) (v := .bool false) rfl (by kernel_rfl) (by kernel_rfl) (by kernel_rfl) (fun _ _ _ h => h) (Or.inl ⟨by rfl, ?_⟩) hHeld ?_
          · intro w' hSw; go_simp
          try simp only [Act.put, List.getElem_toArray, List.getElem_cons_succ, List.getElem_cons_zero, List.setIfInBounds_toArray, List.set_cons_zero, List.set_cons_succ]
          refine wpAnyH_take (i := 5) (v := .bool false) rfl (by kernel_rfl) (by kernel_rfl) (by kernel_rfl) (fun _ _ _ h => h) (Or.inl ⟨by rfl, ?_⟩) hHeld ?_
          · intro w' hSw; go_simp
          try simp only [Act.put, List.getElem_toArray, List.getElem_cons_succ, List.getElem_cons_zero, List.setIfInBounds_toArray, List.set_cons_zero, List.set_cons_succ]
          refine wpAnyH_take (i := 6) (v := .bool false) rfl (by kernel_rfl) (by kernel_rfl) (by kernel_rfl) (fun _ _ _ h => h) (Or.inl ⟨by rfl, ?_⟩) hHeld ?_
          · intro w' hSw; go_simp
          try simp only [Act.put, List.getElem_toArray, List.getElem_cons_succ, List.getElem_cons_zero, List.setIfInBounds_toArray, List.set_cons_zero, List.set_cons_succ]
          refine wpAnyH_take (i := 7) (v := .slice a4 all[i].2.length c4) rfl (by kernel_rfl) (by kernel_rfl) (by kernel_rfl) (fun _ _ _ h => h) (Or.inl ⟨by rfl, ?_⟩) hHeld ?_
          · intro w' hSw; go_simp
          try simp only [Act.put, List.getElem_toArray, List.getElem_cons_succ, List.getElem_cons_zero, List.setIfInBounds_toArray, List.set_cons_zero, List.set_cons_succ]
          refine wpAnyH_take (i := 8) (v := .string ⟨all[i].2.toArray⟩) rfl (by kernel_rfl) (by kernel_rfl) (by kernel_rfl) (fun _ _ _ h => h) (Or.inl ⟨by rfl, ?_⟩) hHeld ?_
          · intro w' hSw; have kx := (hcv w' hSw).1; go_simp
          try simp only [Act.put, List.getElem_toArray, List.getElem_cons_succ, List.getElem_cons_zero, List.setIfInBounds_toArray, List.set_cons_zero, List.set_cons_succ]
          refine wpAnyH_take (i := 9) (v := .slice (some ⟨g, 0, none⟩) all.length ca) rfl (by kernel_rfl) (by kernel_rfl) (by kernel_rfl) (fun _ _ _ h => h) (Or.inl ⟨by rfl, ?_⟩) hHeld ?_
          · intro w' hSw; go_simp
          try simp only [Act.put, List.getElem_toArray, List.getElem_cons_succ, List.getElem_cons_zero, List.setIfInBounds_toArray, List.set_cons_zero, List.set_cons_succ]
          refine wpAnyH_take (i := 10) (v := .int .i64 (i : Int)) rfl (by kernel_rfl) (by kernel_rfl) (by kernel_rfl) (fun _ _ _ h => h) (Or.inl ⟨by rfl, ?_⟩) hHeld ?_
          · intro w' hSw; go_simp
          try simp only [Act.put, List.getElem_toArray, List.getElem_cons_succ, List.getElem_cons_zero, List.setIfInBounds_toArray, List.set_cons_zero, List.set_cons_succ]
          refine wpAnyH_take (i := 11) (v := .pointer (some ⟨g, i * 2, none⟩)) rfl (by kernel_rfl) (by kernel_rfl) (by kernel_rfl) (fun _ _ _ h => h) (Or.inl ⟨by rfl, ?_⟩) hHeld ?_
          · intro w' hSw; go_simp
          try simp only [Act.put, List.getElem_toArray, List.getElem_cons_succ, List.getElem_cons_zero, List.setIfInBounds_toArray, List.set_cons_zero, List.set_cons_succ]
          refine wpAnyH_take (i := 12) (v := .pointer (some ⟨g, i * 2 + 1, none⟩)) rfl (by kernel_rfl) (by kernel_rfl) (by kernel_rfl) (fun _ _ _ h => h) (Or.inl ⟨by rfl, ?_⟩) hHeld ?_
          · intro w' hSw; go_simp
          try simp only [Act.put, List.getElem_toArray, List.getElem_cons_succ, List.getElem_cons_zero, List.setIfInBounds_toArray, List.set_cons_zero, List.set_cons_succ]
          refine wpAnyH_take (i := 13) (v := .slice b2 all[i].2.length d2) rfl (by kernel_rfl) (by kernel_rfl) (by kernel_rfl) (fun _ _ _ h => h) (Or.inl ⟨by rfl, ?_⟩) hHeld ?_
          · intro w' hSw; obtain ⟨k0, k1⟩ := hce w' hSw; go_simp
          try simp only [Act.put, List.getElem_toArray, List.getElem_cons_succ, List.getElem_cons_zero, List.setIfInBounds_toArray, List.set_cons_zero, List.set_cons_succ]
          refine wpAnyH_take (i := 14) (v := .string ⟨all[i].2.toArray⟩) rfl (by kernel_rfl) (by kernel_rfl) (by kernel_rfl) (fun _ _ _ h => h) (Or.inl ⟨by rfl, ?_⟩) hHeld ?_
          · intro w' hSw; have kx := (hcv w' hSw).2.1; go_simp
          try simp only [Act.put, List.getElem_toArray, List.getElem_cons_succ, List.getElem_cons_zero, List.setIfInBounds_toArray, List.set_cons_zero, List.set_cons_succ]
          refine wpAnyH_take (i := 15) (v := .bool false) rfl (by kernel_rfl) (by kernel_rfl) (by kernel_rfl) (fun _ _ _ h => h) (Or.inl ⟨by rfl, ?_⟩) hHeld ?_
          · intro w' hSw; go_simp
          try simp only [Act.put, List.getElem_toArray, List.getElem_cons_succ, List.getElem_cons_zero, List.setIfInBounds_toArray, List.set_cons_zero, List.set_cons_succ]
          refine wpAnyH_take (i := 16) (v := .bool false) rfl (by kernel_rfl) (by kernel_rfl) (by kernel_rfl) (fun _ _ _ h => h) (Or.inl ⟨by rfl, ?_⟩) hHeld ?_
          · intro w' hSw; go_simp
          try simp only [Act.put, List.getElem_toArray, List.getElem_cons_succ, List.getElem_cons_zero, List.setIfInBounds_toArray, List.set_cons_zero, List.set_cons_succ]
          refine wpAnyH_take (i := 17) (v := .bool false) rfl (by kernel_rfl) (by kernel_rfl) (by kernel_rfl) (fun _ _ _ h => h) (Or.inl ⟨by rfl, ?_⟩) hHeld ?_
          · intro w' hSw; go_simp
          try simp only [Act.put, List.getElem_toArray, List.getElem_cons_succ, List.getElem_cons_zero, List.setIfInBounds_toArray, List.set_cons_zero, List.set_cons_succ]
          refine wpAnyH_take (i := 18) (v := .slice (some ⟨g, 0, none⟩) all.length ca) rfl (by kernel_rfl) (by kernel_rfl) (by kernel_rfl) (fun _ _ _ h => h) (Or.inl ⟨by rfl, ?_⟩) hHeld ?_
          · intro w' hSw; go_simp
          try simp only [Act.put, List.getElem_toArray, List.getElem_cons_succ, List.getElem_cons_zero, List.setIfInBounds_toArray, List.set_cons_zero, List.set_cons_succ]
          refine wpAnyH_take (i := 19) (v := .int .i64 (i : Int)) rfl (by kernel_rfl) (by kernel_rfl) (by kernel_rfl) (fun _ _ _ h => h) (Or.inl ⟨by rfl, ?_⟩) hHeld ?_
          · intro w' hSw; go_simp
          try simp only [Act.put, List.getElem_toArray, List.getElem_cons_succ, List.getElem_cons_zero, List.setIfInBounds_toArray, List.set_cons_zero, List.set_cons_succ]
          refine wpAnyH_take (i := 20) (v := .pointer (some ⟨g, i * 2, none⟩)) rfl (by kernel_rfl) (by kernel_rfl) (by kernel_rfl) (fun _ _ _ h => h) (Or.inl ⟨by rfl, ?_⟩) hHeld ?_
          · intro w' hSw; go_simp
          try simp only [Act.put, List.getElem_toArray, List.getElem_cons_succ, List.getElem_cons_zero, List.setIfInBounds_toArray, List.set_cons_zero, List.set_cons_succ]
          refine wpAnyH_take (i := 21) (v := .pointer (some ⟨g, i * 2, none⟩)) rfl (by kernel_rfl) (by kernel_rfl) (by kernel_rfl) (fun _ _ _ h => h) (Or.inl ⟨by rfl, ?_⟩) hHeld ?_
          · intro w' hSw; go_simp
          try simp only [Act.put, List.getElem_toArray, List.getElem_cons_succ, List.getElem_cons_zero, List.setIfInBounds_toArray, List.set_cons_zero, List.set_cons_succ]
          refine wpAnyH_take (i := 22) (v := .slice b1 all[i].1.length d1) rfl (by kernel_rfl) (by kernel_rfl) (by kernel_rfl) (fun _ _ _ h => h) (Or.inl ⟨by rfl, ?_⟩) hHeld ?_
          · intro w' hSw; obtain ⟨k0, k1⟩ := hce w' hSw; go_simp
          try simp only [Act.put, List.getElem_toArray, List.getElem_cons_succ, List.getElem_cons_zero, List.setIfInBounds_toArray, List.set_cons_zero, List.set_cons_succ]
          refine wpAnyH_take (i := 23) (v := .string ⟨all[i].1.toArray⟩) rfl (by kernel_rfl) (by kernel_rfl) (by kernel_rfl) (fun _ _ _ h => h) (Or.inl ⟨by rfl, ?_⟩) hHeld ?_
          · intro w' hSw; have kx := (hcv w' hSw).2.2.1; go_simp
          try simp only [Act.put, List.getElem_toArray, List.getElem_cons_succ, List.getElem_cons_zero, List.setIfInBounds_toArray, List.set_cons_zero, List.set_cons_succ]
          refine wpAnyH_take (i := 24) (v := .slice ak key.length ck) rfl (by kernel_rfl) (by kernel_rfl) (by kernel_rfl) (fun _ _ _ h => h) (Or.inl ⟨by rfl, ?_⟩) hHeld ?_
          · intro w' hSw; go_simp
          try simp only [Act.put, List.getElem_toArray, List.getElem_cons_succ, List.getElem_cons_zero, List.setIfInBounds_toArray, List.set_cons_zero, List.set_cons_succ]
          refine wpAnyH_take (i := 25) (v := .string ⟨key.toArray⟩) rfl (by kernel_rfl) (by kernel_rfl) (by kernel_rfl) (fun _ _ _ h => h) (Or.inl ⟨by rfl, ?_⟩) hHeld ?_
          · intro w' hSw; have kx := (hcv w' hSw).2.2.2.1; go_simp
          try simp only [Act.put, List.getElem_toArray, List.getElem_cons_succ, List.getElem_cons_zero, List.setIfInBounds_toArray, List.set_cons_zero, List.set_cons_succ]
          refine wpAnyH_take (i := 26) (v := .bool true) rfl (by kernel_rfl) (by kernel_rfl) (by kernel_rfl) (fun _ _ _ h => h) (Or.inl ⟨by rfl, ?_⟩) hHeld ?_
          · intro w' hSw; go_simp
          try simp only [Act.put, List.getElem_toArray, List.getElem_cons_succ, List.getElem_cons_zero, List.setIfInBounds_toArray, List.set_cons_zero, List.set_cons_succ]
          refine wpAnyH_take (i := 27) (v := .bool true) rfl (by kernel_rfl) (by kernel_rfl) (by kernel_rfl) (fun _ _ _ h => h) (Or.inl ⟨by rfl, ?_⟩) hHeld ?_
          · intro w' hSw; go_simp
          try simp only [Act.put, List.getElem_toArray, List.getElem_cons_succ, List.getElem_cons_zero, List.setIfInBounds_toArray, List.set_cons_zero, List.set_cons_succ]
          refine wpAnyH_take (i := 28) (v := .slice a5 all[i].2.length c5) rfl (by kernel_rfl) (by kernel_rfl) (by kernel_rfl) (fun _ _ _ h => h) (Or.inl ⟨by rfl, ?_⟩) hHeld ?_
          · intro w' hSw; go_simp
          try simp only [Act.put, List.getElem_toArray, List.getElem_cons_succ, List.getElem_cons_zero, List.setIfInBounds_toArray, List.set_cons_zero, List.set_cons_succ]
          refine wpAnyH_take (i := 29) (v := .string ⟨all[i].2.toArray⟩) rfl (by kernel_rfl) (by kernel_rfl) (by kernel_rfl) (fun _ _ _ h => h) (Or.inl ⟨by rfl, ?_⟩) hHeld ?_
          · intro w' hSw; have kx := (hcv w' hSw).2.2.2.2; go_simp
          try simp only [Act.put, List.getElem_toArray, List.getElem_cons_succ, List.getElem_cons_zero, List.setIfInBounds_toArray, List.set_cons_zero, List.set_cons_succ]
          refine wpAnyH_take (i := 30) (v := .slice a4 all[i].2.length c4) rfl (by kernel_rfl) (by kernel_rfl) (by kernel_rfl) (fun _ _ _ h => h) (Or.inl ⟨by rfl, ?_⟩) hHeld ?_
          · intro w' hSw; go_simp
          try simp only [Act.put, List.getElem_toArray, List.getElem_cons_succ, List.getElem_cons_zero, List.setIfInBounds_toArray, List.set_cons_zero, List.set_cons_succ]
          refine wpAnyH_take (i := 31) (v := .string ⟨all[i].2.toArray⟩) rfl (by kernel_rfl) (by kernel_rfl) (by kernel_rfl) (fun _ _ _ h => h) (Or.inl ⟨by rfl, ?_⟩) hHeld ?_
          · intro w' hSw; have kx := (hcv w' hSw).1; go_simp
          try simp only [Act.put, List.getElem_toArray, List.getElem_cons_succ, List.getElem_cons_zero, List.setIfInBounds_toArray, List.set_cons_zero, List.set_cons_succ]
          refine wpAnyH_take (i := 32) (v := .bool false) rfl (by kernel_rfl) (by kernel_rfl) (by kernel_rfl) (fun _ _ _ h => h) (Or.inl ⟨by rfl, ?_⟩) hHeld ?_
          · intro w' hSw; go_simp
          try simp only [Act.put, List.getElem_toArray, List.getElem_cons_succ, List.getElem_cons_zero, List.setIfInBounds_toArray, List.set_cons_zero, List.set_cons_succ]
          refine wpAnyH_take (i := 33) (v := .bool false) rfl (by kernel_rfl) (by kernel_rfl) (by kernel_rfl) (fun _ _ _ h => h) (Or.inl ⟨by rfl, ?_⟩) hHeld ?_
          · intro w' hSw; go_simp
          try simp only [Act.put, List.getElem_toArray, List.getElem_cons_succ, List.getElem_cons_zero, List.setIfInBounds_toArray, List.set_cons_zero, List.set_cons_succ]
          refine wpAnyH_take (i := 34) (v := .bool false) rfl (by kernel_rfl) (by kernel_rfl) (by kernel_rfl) (fun _ _ _ h => h) (Or.inl ⟨by rfl, ?_⟩) hHeld ?_
          · intro w' hSw; go_simp
          try simp only [Act.put, List.getElem_toArray, List.getElem_cons_succ, List.getElem_cons_zero, List.setIfInBounds_toArray, List.set_cons_zero, List.set_cons_succ]
          refine wpAnyH_done (by kernel_rfl) ?_ _
          clear hHeld
          have HBn := Lib.hid (HB.out.trans (hB7r.mono hsbr))
          clear hB7r
          go_wp2_with fail
          go_roundw
          case rel => exact ⟨i + 1, by omega, by go_num, HBn.out⟩
          case measure => first | (simp [intOf]; done) | (simp [intOf]; omega)
      · go_wp2_with fail
        refine Get_u w1.heap.size lo hi 100 t key _ _ wr hs1r Htr.out Hkr.out Hg2.out d0 true Hd0.out Hb0.out _ (fun w6 a6 c6 hB6 hb6 => ?_)
        have hs6 := hB6.size
        have hr := HR.out w6 (HB9.out.trans ((HB.out.trans (hB6.mono hsbr)).mono HB9.out.size))
        have Ht6 := Lib.hid (Htr.out.step (Nn.lt _) hs1r hB6)
        have Hu6 := Lib.hid (Hur.out.step (Nn.lt _) hs1r hB6)
        have c1 := str hb6
        have c2 := str (Sl.below Hold.out (flat_loc _) (HB.out.trans (hB6.mono hsbr)) hold9)
        clear hB6 hb6
        go_wp2_with fail
        refine Len_any Nn w1.heap.size t _ w6 Ht6.out _ ?_
        rw [← Hlen.out]
        go_wp2_with fail
        refine Len_any Nn w1.heap.size u _ w6 Hu6.out _ ?_
        rw [Hulen.out]
        go_wp2_with fail
        first | exact hr | exact fin hr rfl
end Go.Proofs.Ytmlcnfomiemdpaa
