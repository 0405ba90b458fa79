/- The walk of TreeNames. (Printed by treena.py.) -/
import Derived.Test.YtmlcnfomiemdpaaKp
import Derived.Test.YtmlcnfomiemdpaaTreeStP
import Derived.Test.YtmlcnfomiemdpaaLimits
namespace Go.Proofs.Ytmlcnfomiemdpaa
open Go.RowKit
attribute [local go_sem ↓] Go.wp_at_zero Go.wp_at_succ
set_option linter.unusedVariables false
set_option linter.unusedSimpArgs false

theorem Pairs.one {lo : Nat} {w : World} {v : Value} {ps : List (Value × Value)} {k x : List UInt8} (h : Pairs lo w v ps [(k, x)]) : ∃ g c a1 c1 a2 c2, v = .slice (some ⟨g, 0, none⟩) 1 c ∧ g < w.heap.size ∧
    w.cell? ⟨g, 0, none⟩ = some (.slice a1 k.length c1) ∧ w.cell? ⟨g, 1, none⟩ = some (.slice a2 x.length c2) ∧ Bytes lo w.heap.size w (.slice a1 k.length c1) k ∧ Bytes lo w.heap.size w (.slice a2 x.length c2) x := by
  obtain ⟨p, c, rfl⟩ := h.form
  obtain ⟨g, a1, c1, a2, c2, rfl, hg, h0, h1, h2, h3⟩ := h.at 0 (by simp)
  exact ⟨g, c, a1, c1, a2, c2, rfl, hg, by simpa using h0, by simpa using h1, h2, h3⟩
theorem size_of {n : Nat} {w : World} {o : Obj} (h : n ≤ (w.alloc o).heap.size) (hn : n ≤ w.heap.size) : n ≤ w.heap.size := hn
/-- The zero tree. -/
theorem tr_zero (lo : Nat) (w : World) (h : lo ≤ w.heap.size) : Tr Nn lo (w.alloc (.cells #[.pointer none] 52)) .nil (.pointer (some ⟨w.heap.size, 0, none⟩)) :=
  .inr ⟨w.heap.size, none, rfl, .inr ⟨h, by simp⟩, (CellsAt.new w [.pointer none] _).c1, rfl⟩
/-- 'make([]byte, n)'. -/
theorem mkZ (w : World) (m : Nat) (hm : m = w.heap.size) (n : Nat) (hn : n ≤ 70000) (x : Int) (hx : x = n) : ∃ w', (Instr.makeSlice 30 (.int .i64 x) (.int .i64 x)).run Try.prog w = .ok (.slice (some ⟨m, 0, none⟩) n n) w' ∧
    Below w.heap.size w w' ∧ Kp (fun w => Bytes 0 w.heap.size w (.slice (some ⟨m, 0, none⟩) n n) (List.replicate n 0)) w' := by
  subst hm hx
  refine ⟨_, run_mk n hn w, alloc_below _ _, Bytes.kz (mk_bytes (CellsAt.new w _ _) hn) (by simp)⟩
set_option maxRecDepth 100000 in
set_option maxHeartbeats 8000000 in
theorem TreeNames_any (w : World) (R : Ending → World → Prop) (hR : ∀ w', Below w.heap.size w w' → R (.returned (.bool true)) w') : Calls Try.prog 7 #[] w R := by
  have HR := Lib.hid hR
  clear hR
  go_enter Try.func7, Try.ntmps7
  go_wp2_with fail
  refine of_any [97, 98, 100] (by decide) w _ (fun w1 p1 hB1 ht1 => ?_)
  obtain ⟨q1, rfl⟩ := ht1.ptr2
  obtain ⟨t, et⟩ : ∃ t, t = ofT [97, 98, 100] := ⟨_, rfl⟩
  rw [← et] at ht1
  have Hg : Hid (Gr t 3) := Lib.hid (by rw [et]; exact ofT_gr [97, 98, 100] 3 (Nat.le_refl _))
  have Hat : Hid (t.at 2 = ([100], [52])) := Lib.hid (by rw [et]; decide)
  have Hrk : Hid (t.rank [99] = 2) := Lib.hid (by rw [et]; decide)
  have Hmy : Hid (t.many = 3) := Lib.hid (by rw [et]; decide)
  have Hrg : Hid (rangeL [] 1 (t.from [98]) = [([98], [50])]) := Lib.hid (by rw [et]; decide)
  have Hdf : Hid (((t.put [98] [57]).from []).filter (dfP t) = [([98], [57])]) := Lib.hid (by rw [et]; decide)
  have Hgt : Hid (getL [98] t.toL = some [50]) := Lib.hid (by rw [et]; decide)
  have Hct : Hid ((t.cut [120]).many = 3) := Lib.hid (by rw [et]; decide)
  clear et
  have hm6 : Hid (t.many ≤ 1000000) := Lib.hid (by rw [Hmy.out]; omega)
  have HB := Lib.hid (Below.kp hB1 hB1.size)
  have HZ := Lib.hid (size_kp hB1.size)
  have HT := Lib.hid (Tr.kp ht1 hB1.size)
  clear hB1 ht1
  go_wp2_with fail
  refine At_any Nn w.heap.size t 2 (.pointer q1) w1 (Nn.lt _) HZ.out.here HT.out.here hm6.out Hg.out.len8 _ (fun hno => absurd hno (by rw [Hmy.out]; decide)) (fun n en hn w2 k2 v2 hB2 ho1 ho2 _ => ?_)
  have hn2 : n = 2 := by omega
  subst hn2
  rw [Hat.out] at ho1 ho2
  have hx1 := OwnB.bytes ho1
  have hx2 := OwnB.bytes ho2
  obtain ⟨a1, c1, rfl, -, -, -⟩ := hx1.form
  obtain ⟨a2, c2, rfl, -, -, -⟩ := hx2.form
  replace HB := Lib.hid (HB.out.step hB2)
  replace HZ := Lib.hid (HZ.out.step hB2)
  replace HT := Lib.hid (HT.out.step hB2)
  have HA1 := Lib.hid (Bytes.kz hx1 (Nat.le_refl _))
  have HA2 := Lib.hid (Bytes.kz hx2 (Nat.le_refl _))
  have hal := alloc_below w2 (.cells #[.slice a1 1 c1, .slice a2 1 c2] 43)
  replace HB := Lib.hid (HB.out.step hal)
  replace HZ := Lib.hid (HZ.out.step hal)
  replace HT := Lib.hid (HT.out.step hal)
  replace HA1 := Lib.hid (HA1.out.step hal)
  replace HA2 := Lib.hid (HA2.out.step hal)
  obtain ⟨p0, p1, p2⟩ := pair_new w2 (.slice a1 1 c1) (.slice a2 1 c2) _ rfl
  have HP0 := Lib.hid (cell_kp p0 p2)
  have HP1 := Lib.hid (cell_kp p1 p2)
  clear hB2 ho1 ho2 hx1 hx2 hal p0 p1 p2 en hn
  obtain ⟨w3, c3, b3, y3, z3⟩ := constB' (w2.alloc (.cells #[.slice a1 1 c1, .slice a2 1 c2] 43)) (w2.heap.size + 1) (by simp) 98 98 rfl
  replace HB := Lib.hid (HB.out.step b3)
  replace HZ := Lib.hid (HZ.out.step b3)
  replace HT := Lib.hid (HT.out.step b3)
  replace HA1 := Lib.hid (HA1.out.step b3)
  replace HA2 := Lib.hid (HA2.out.step b3)
  replace HP0 := Lib.hid (HP0.out.step b3)
  replace HP1 := Lib.hid (HP1.out.step b3)
  have Y3 := Lib.hid (Bytes.kz y3 z3)
  clear b3 y3 z3
  go_wp2_with fail
  refine Range_any Nn w.heap.size _ _ 0 0 t [98] [] (.pointer q1) _ (.slice none 0 0) 1 w3 (Nn.lt _) HZ.out.here HT.out.here Y3.out.here (Nat.le_refl _) (Sl.nil _ _ _ _ _) (Nat.zero_le _) hm6.out Hg.out.len8 _ (fun w4 vl psl hB4 hPl => ?_)
  rw [Hrg.out] at hPl
  clear c3
  clear Y3
  replace HB := Lib.hid (HB.out.step hB4)
  replace HZ := Lib.hid (HZ.out.step hB4)
  replace HT := Lib.hid (HT.out.step hB4)
  replace HA1 := Lib.hid (HA1.out.step hB4)
  replace HA2 := Lib.hid (HA2.out.step hB4)
  replace HP0 := Lib.hid (HP0.out.step hB4)
  replace HP1 := Lib.hid (HP1.out.step hB4)
  obtain ⟨gl, sl, i1l, j1l, i2l, j2l, rfl, k0l, k1l, k2l, k3l, k4l⟩ := hPl.one
  have Ul0 := Lib.hid (cell_kp k1l k0l)
  have Ul1 := Lib.hid (cell_kp k2l k0l)
  have Ul2 := Lib.hid (Bytes.kz k3l (Nat.le_refl _))
  have Ul3 := Lib.hid (Bytes.kz k4l (Nat.le_refl _))
  clear k0l k1l k2l k3l k4l
  clear hB4 hPl
  obtain ⟨w5, c5, b5, y5, z5⟩ := constB' (w4) (w4.heap.size) (by simp) 98 98 rfl
  replace HB := Lib.hid (HB.out.step b5)
  replace HZ := Lib.hid (HZ.out.step b5)
  replace HT := Lib.hid (HT.out.step b5)
  replace HA1 := Lib.hid (HA1.out.step b5)
  replace HA2 := Lib.hid (HA2.out.step b5)
  replace HP0 := Lib.hid (HP0.out.step b5)
  replace HP1 := Lib.hid (HP1.out.step b5)
  replace Ul0 := Lib.hid (Ul0.out.step b5)
  replace Ul1 := Lib.hid (Ul1.out.step b5)
  replace Ul2 := Lib.hid (Ul2.out.step b5)
  replace Ul3 := Lib.hid (Ul3.out.step b5)
  have Y5 := Lib.hid (Bytes.kz y5 z5)
  clear b5 y5 z5
  obtain ⟨w6, c6, b6, y6, z6⟩ := constB' (w5) (w5.heap.size) (by simp) 57 57 rfl
  replace HB := Lib.hid (HB.out.step b6)
  replace HZ := Lib.hid (HZ.out.step b6)
  replace HT := Lib.hid (HT.out.step b6)
  replace HA1 := Lib.hid (HA1.out.step b6)
  replace HA2 := Lib.hid (HA2.out.step b6)
  replace HP0 := Lib.hid (HP0.out.step b6)
  replace HP1 := Lib.hid (HP1.out.step b6)
  replace Ul0 := Lib.hid (Ul0.out.step b6)
  replace Ul1 := Lib.hid (Ul1.out.step b6)
  replace Ul2 := Lib.hid (Ul2.out.step b6)
  replace Ul3 := Lib.hid (Ul3.out.step b6)
  replace Y5 := Lib.hid (Y5.out.step b6)
  have Y6 := Lib.hid (Bytes.kz y6 z6)
  clear b6 y6 z6
  go_wp2_with fail
  refine (Put_x w.heap.size _ _ _ _ 3 t [98] [57] _ _ _ w6 HZ.out.here HT.out.here Y5.out.here Y6.out.here (Nat.le_refl _) (Nat.le_refl _) Hg.out (by decide) (by decide) (by decide)).mono ?_
  rintro e w7 ⟨qu, rfl, hB7, -, hu7⟩
  clear c5 c6
  clear Y5 Y6
  replace HB := Lib.hid (HB.out.step hB7)
  replace HZ := Lib.hid (HZ.out.step hB7)
  replace HT := Lib.hid (HT.out.step hB7)
  replace HA1 := Lib.hid (HA1.out.step hB7)
  replace HA2 := Lib.hid (HA2.out.step hB7)
  replace HP0 := Lib.hid (HP0.out.step hB7)
  replace HP1 := Lib.hid (HP1.out.step hB7)
  replace Ul0 := Lib.hid (Ul0.out.step hB7)
  replace Ul1 := Lib.hid (Ul1.out.step hB7)
  replace Ul2 := Lib.hid (Ul2.out.step hB7)
  replace Ul3 := Lib.hid (Ul3.out.step hB7)
  obtain ⟨u, eu⟩ : ∃ u, u = t.put [98] [57] := ⟨_, rfl⟩
  rw [← eu] at hu7
  have Hgu : Hid (Gr u 4) := Lib.hid (by rw [eu]; exact Hg.out.put _ _ (by decide) (by decide))
  have Hdu : Hid ((u.from []).filter (dfP t) = [([98], [57])]) := Lib.hid (by rw [eu]; exact Hdf.out)
  have HU := Lib.hid (Tr.kp hu7 HZ.out.here)
  clear eu hB7 hu7
  go_wp2_with fail
  refine Diff_any w.heap.size u t _ _ w7 HZ.out.here HU.out.here HT.out.here (by have := Hgu.out.many; omega) Hgu.out.len8 _ (fun w8 vd psd hB8 hPd => ?_)
  rw [Hdu.out] at hPd
  replace HB := Lib.hid (HB.out.step hB8)
  replace HZ := Lib.hid (HZ.out.step hB8)
  replace HT := Lib.hid (HT.out.step hB8)
  replace HA1 := Lib.hid (HA1.out.step hB8)
  replace HA2 := Lib.hid (HA2.out.step hB8)
  replace HP0 := Lib.hid (HP0.out.step hB8)
  replace HP1 := Lib.hid (HP1.out.step hB8)
  replace Ul0 := Lib.hid (Ul0.out.step hB8)
  replace Ul1 := Lib.hid (Ul1.out.step hB8)
  replace Ul2 := Lib.hid (Ul2.out.step hB8)
  replace Ul3 := Lib.hid (Ul3.out.step hB8)
  replace HU := Lib.hid (HU.out.step hB8)
  obtain ⟨gd, sd, i1d, j1d, i2d, j2d, rfl, k0d, k1d, k2d, k3d, k4d⟩ := hPd.one
  have Ud0 := Lib.hid (cell_kp k1d k0d)
  have Ud1 := Lib.hid (cell_kp k2d k0d)
  have Ud2 := Lib.hid (Bytes.kz k3d (Nat.le_refl _))
  have Ud3 := Lib.hid (Bytes.kz k4d (Nat.le_refl _))
  clear k0d k1d k2d k3d k4d
  clear hB8 hPd
  obtain ⟨w9, c9, b9, y9, z9⟩ := constB' (w8) (w8.heap.size) (by simp) 98 98 rfl
  replace HB := Lib.hid (HB.out.step b9)
  replace HZ := Lib.hid (HZ.out.step b9)
  replace HT := Lib.hid (HT.out.step b9)
  replace HA1 := Lib.hid (HA1.out.step b9)
  replace HA2 := Lib.hid (HA2.out.step b9)
  replace HP0 := Lib.hid (HP0.out.step b9)
  replace HP1 := Lib.hid (HP1.out.step b9)
  replace Ul0 := Lib.hid (Ul0.out.step b9)
  replace Ul1 := Lib.hid (Ul1.out.step b9)
  replace Ul2 := Lib.hid (Ul2.out.step b9)
  replace Ul3 := Lib.hid (Ul3.out.step b9)
  replace HU := Lib.hid (HU.out.step b9)
  replace Ud0 := Lib.hid (Ud0.out.step b9)
  replace Ud1 := Lib.hid (Ud1.out.step b9)
  replace Ud2 := Lib.hid (Ud2.out.step b9)
  replace Ud3 := Lib.hid (Ud3.out.step b9)
  have Y9 := Lib.hid (Bytes.kz y9 z9)
  clear b9 y9 z9
  go_wp2_with fail
  refine Get_u w.heap.size _ _ 3 t [98] _ _ w9 HZ.out.here HT.out.here Y9.out.here Hg.out [50] true (by rw [Hgt.out]; rfl) (by rw [Hgt.out]; rfl) _ (fun wa a3 c3 hBa hx3 => ?_)
  clear c9
  clear Y9
  replace HB := Lib.hid (HB.out.step hBa)
  replace HZ := Lib.hid (HZ.out.step hBa)
  replace HT := Lib.hid (HT.out.step hBa)
  replace HA1 := Lib.hid (HA1.out.step hBa)
  replace HA2 := Lib.hid (HA2.out.step hBa)
  replace HP0 := Lib.hid (HP0.out.step hBa)
  replace HP1 := Lib.hid (HP1.out.step hBa)
  replace Ul0 := Lib.hid (Ul0.out.step hBa)
  replace Ul1 := Lib.hid (Ul1.out.step hBa)
  replace Ul2 := Lib.hid (Ul2.out.step hBa)
  replace Ul3 := Lib.hid (Ul3.out.step hBa)
  replace HU := Lib.hid (HU.out.step hBa)
  replace Ud0 := Lib.hid (Ud0.out.step hBa)
  replace Ud1 := Lib.hid (Ud1.out.step hBa)
  replace Ud2 := Lib.hid (Ud2.out.step hBa)
  replace Ud3 := Lib.hid (Ud3.out.step hBa)
  have HV := Lib.hid (Bytes.kz hx3 (Nat.le_refl _))
  clear hBa hx3
  have m0 := HP0.out.here
  have m1 := HP1.out.here
  go_wp2_with fail
  refine told_any 0 _ _ _ [100] [52] [100] [52] true wa HA1.out.here HA2.out.here (Nat.le_refl _) _ (fun wb hB => ?_)
  rw [show (true && (([100] : List UInt8) == [100]) && (([52] : List UInt8) == [52])) = true by decide]
  replace HB := Lib.hid (HB.out.step hB)
  replace HZ := Lib.hid (HZ.out.step hB)
  replace HT := Lib.hid (HT.out.step hB)
  replace HA1 := Lib.hid (HA1.out.step hB)
  replace HA2 := Lib.hid (HA2.out.step hB)
  replace HP0 := Lib.hid (HP0.out.step hB)
  replace HP1 := Lib.hid (HP1.out.step hB)
  replace Ul0 := Lib.hid (Ul0.out.step hB)
  replace Ul1 := Lib.hid (Ul1.out.step hB)
  replace Ul2 := Lib.hid (Ul2.out.step hB)
  replace Ul3 := Lib.hid (Ul3.out.step hB)
  replace HU := Lib.hid (HU.out.step hB)
  replace Ud0 := Lib.hid (Ud0.out.step hB)
  replace Ud1 := Lib.hid (Ud1.out.step hB)
  replace Ud2 := Lib.hid (Ud2.out.step hB)
  replace Ud3 := Lib.hid (Ud3.out.step hB)
  replace HV := Lib.hid (HV.out.step hB)
  clear hB
  obtain ⟨wc, cc, bc, yc, zc⟩ := constB' (wb) (wb.heap.size) (by simp) 99 99 rfl
  replace HB := Lib.hid (HB.out.step bc)
  replace HZ := Lib.hid (HZ.out.step bc)
  replace HT := Lib.hid (HT.out.step bc)
  replace HA1 := Lib.hid (HA1.out.step bc)
  replace HA2 := Lib.hid (HA2.out.step bc)
  replace HP0 := Lib.hid (HP0.out.step bc)
  replace HP1 := Lib.hid (HP1.out.step bc)
  replace Ul0 := Lib.hid (Ul0.out.step bc)
  replace Ul1 := Lib.hid (Ul1.out.step bc)
  replace Ul2 := Lib.hid (Ul2.out.step bc)
  replace Ul3 := Lib.hid (Ul3.out.step bc)
  replace HU := Lib.hid (HU.out.step bc)
  replace Ud0 := Lib.hid (Ud0.out.step bc)
  replace Ud1 := Lib.hid (Ud1.out.step bc)
  replace Ud2 := Lib.hid (Ud2.out.step bc)
  replace Ud3 := Lib.hid (Ud3.out.step bc)
  replace HV := Lib.hid (HV.out.step bc)
  have Yc := Lib.hid (Bytes.kz yc zc)
  clear bc yc zc
  go_wp2_with fail
  refine Rank_any Nn w.heap.size _ _ t [99] _ _ wc HT.out.here Yc.out.here hm6.out _ ?_
  rw [Hrk.out]
  clear cc
  have m2 := Ul0.out.here
  have m3 := Ul1.out.here
  go_wp2_with fail
  refine told_any 0 _ _ _ [98] [50] [98] [50] true wc Ul2.out.here Ul3.out.here (Nat.le_refl _) _ (fun wd hB => ?_)
  rw [show (true && (([98] : List UInt8) == [98]) && (([50] : List UInt8) == [50])) = true by decide]
  replace HB := Lib.hid (HB.out.step hB)
  replace HZ := Lib.hid (HZ.out.step hB)
  replace HT := Lib.hid (HT.out.step hB)
  replace HA1 := Lib.hid (HA1.out.step hB)
  replace HA2 := Lib.hid (HA2.out.step hB)
  replace HP0 := Lib.hid (HP0.out.step hB)
  replace HP1 := Lib.hid (HP1.out.step hB)
  replace Ul0 := Lib.hid (Ul0.out.step hB)
  replace Ul1 := Lib.hid (Ul1.out.step hB)
  replace Ul2 := Lib.hid (Ul2.out.step hB)
  replace Ul3 := Lib.hid (Ul3.out.step hB)
  replace HU := Lib.hid (HU.out.step hB)
  replace Ud0 := Lib.hid (Ud0.out.step hB)
  replace Ud1 := Lib.hid (Ud1.out.step hB)
  replace Ud2 := Lib.hid (Ud2.out.step hB)
  replace Ud3 := Lib.hid (Ud3.out.step hB)
  replace HV := Lib.hid (HV.out.step hB)
  replace Yc := Lib.hid (Yc.out.step hB)
  clear hB
  clear m0 m1 m2 m3
  obtain ⟨we, ce, be, ye, ze⟩ := constB' (wd) (wd.heap.size) (by simp) 120 120 rfl
  replace HB := Lib.hid (HB.out.step be)
  replace HZ := Lib.hid (HZ.out.step be)
  replace HT := Lib.hid (HT.out.step be)
  replace HA1 := Lib.hid (HA1.out.step be)
  replace HA2 := Lib.hid (HA2.out.step be)
  replace HP0 := Lib.hid (HP0.out.step be)
  replace HP1 := Lib.hid (HP1.out.step be)
  replace Ul0 := Lib.hid (Ul0.out.step be)
  replace Ul1 := Lib.hid (Ul1.out.step be)
  replace Ul2 := Lib.hid (Ul2.out.step be)
  replace Ul3 := Lib.hid (Ul3.out.step be)
  replace HU := Lib.hid (HU.out.step be)
  replace Ud0 := Lib.hid (Ud0.out.step be)
  replace Ud1 := Lib.hid (Ud1.out.step be)
  replace Ud2 := Lib.hid (Ud2.out.step be)
  replace Ud3 := Lib.hid (Ud3.out.step be)
  replace HV := Lib.hid (HV.out.step be)
  replace Yc := Lib.hid (Yc.out.step be)
  have Ye := Lib.hid (Bytes.kz ye ze)
  clear be ye ze
  go_wp2_with fail
  refine Cut_any Nn w.heap.size _ _ t [120] _ _ we (Nn.lt _) HZ.out.here HT.out.here Ye.out.here (Nat.le_refl _) hm6.out _ (fun wf qc hB _ hc => ?_)
  clear ce
  replace HB := Lib.hid (HB.out.step hB)
  replace HZ := Lib.hid (HZ.out.step hB)
  replace HT := Lib.hid (HT.out.step hB)
  replace HA1 := Lib.hid (HA1.out.step hB)
  replace HA2 := Lib.hid (HA2.out.step hB)
  replace HP0 := Lib.hid (HP0.out.step hB)
  replace HP1 := Lib.hid (HP1.out.step hB)
  replace Ul0 := Lib.hid (Ul0.out.step hB)
  replace Ul1 := Lib.hid (Ul1.out.step hB)
  replace Ul2 := Lib.hid (Ul2.out.step hB)
  replace Ul3 := Lib.hid (Ul3.out.step hB)
  replace HU := Lib.hid (HU.out.step hB)
  replace Ud0 := Lib.hid (Ud0.out.step hB)
  replace Ud1 := Lib.hid (Ud1.out.step hB)
  replace Ud2 := Lib.hid (Ud2.out.step hB)
  replace Ud3 := Lib.hid (Ud3.out.step hB)
  replace HV := Lib.hid (HV.out.step hB)
  replace Yc := Lib.hid (Yc.out.step hB)
  replace Ye := Lib.hid (Ye.out.step hB)
  clear hB
  go_wp2_with fail
  refine Len_any Nn w.heap.size _ _ wf hc _ ?_
  rw [Hct.out]
  have m2 := Ud0.out.here
  have m3 := Ud1.out.here
  clear hc
  go_wp2_with fail
  refine told_any 0 _ _ _ [98] [57] [98] [57] true wf Ud2.out.here Ud3.out.here (Nat.le_refl _) _ (fun wg hB => ?_)
  rw [show (true && (([98] : List UInt8) == [98]) && (([57] : List UInt8) == [57])) = true by decide]
  replace HB := Lib.hid (HB.out.step hB)
  replace HZ := Lib.hid (HZ.out.step hB)
  replace HT := Lib.hid (HT.out.step hB)
  replace HA1 := Lib.hid (HA1.out.step hB)
  replace HA2 := Lib.hid (HA2.out.step hB)
  replace HP0 := Lib.hid (HP0.out.step hB)
  replace HP1 := Lib.hid (HP1.out.step hB)
  replace Ul0 := Lib.hid (Ul0.out.step hB)
  replace Ul1 := Lib.hid (Ul1.out.step hB)
  replace Ul2 := Lib.hid (Ul2.out.step hB)
  replace Ul3 := Lib.hid (Ul3.out.step hB)
  replace HU := Lib.hid (HU.out.step hB)
  replace Ud0 := Lib.hid (Ud0.out.step hB)
  replace Ud1 := Lib.hid (Ud1.out.step hB)
  replace Ud2 := Lib.hid (Ud2.out.step hB)
  replace Ud3 := Lib.hid (Ud3.out.step hB)
  replace HV := Lib.hid (HV.out.step hB)
  replace Yc := Lib.hid (Yc.out.step hB)
  replace Ye := Lib.hid (Ye.out.step hB)
  clear hB
  have m4 : (convert 30 9 (.slice a3 1 c3)).run Try.prog wg = .ok (.string ⟨#[50]⟩) wg := str HV.out.here
  clear m2 m3
  clear HA1 HA2 HP0 HP1 Ul0 Ul1 Ul2 Ul3 Ud0 Ud1 Ud2 Ud3 HU
  have hzg := HZ.out.here
  have hal := alloc_below wg (.cells #[.pointer none] 52)
  replace HB := Lib.hid (HB.out.step hal)
  replace HZ := Lib.hid (HZ.out.step hal)
  replace HT := Lib.hid (HT.out.step hal)
  replace HV := Lib.hid (HV.out.step hal)
  replace Yc := Lib.hid (Yc.out.step hal)
  replace Ye := Lib.hid (Ye.out.step hal)
  have hz : Tr Nn w.heap.size (wg.alloc (.cells #[.pointer none] 52)) .nil (.pointer (some ⟨wg.heap.size, 0, none⟩)) := tr_zero w.heap.size wg hzg
  have HO := Lib.hid (Tr.kp hz HZ.out.here)
  clear hal hz
  obtain ⟨wh, ch, bh, yh⟩ := mkZ (wg.alloc (.cells #[.pointer none] 52)) (wg.heap.size + 1) (by simp) 4097 (by decide) 4097 rfl
  replace HB := Lib.hid (HB.out.step bh)
  replace HZ := Lib.hid (HZ.out.step bh)
  replace HT := Lib.hid (HT.out.step bh)
  replace HV := Lib.hid (HV.out.step bh)
  replace Yc := Lib.hid (Yc.out.step bh)
  replace Ye := Lib.hid (Ye.out.step bh)
  replace HO := Lib.hid (HO.out.step bh)
  have Yh := Lib.hid (yh)
  clear bh yh
  go_wp2_with fail
  refine Put_any Nn w.heap.size _ _ 0 0 .nil (List.replicate 4097 0) [] _ _ _ wh (Nn.lt _) HZ.out.here (.inl ⟨rfl, rfl⟩) Yh.out.here (Sl.nil _ _ _ _ _) (Nat.le_refl _) (Nat.zero_le _) (by decide) _ ?_ (fun h1 _ => absurd h1 (by rw [List.length_replicate]; decide))
  intro _
  clear ch
  clear Yh
  obtain ⟨wi, ci, bi, yi⟩ := mkZ (wh) (wh.heap.size) (by simp) 65537 (by decide) 65537 rfl
  replace HB := Lib.hid (HB.out.step bi)
  replace HZ := Lib.hid (HZ.out.step bi)
  replace HT := Lib.hid (HT.out.step bi)
  replace HV := Lib.hid (HV.out.step bi)
  replace Yc := Lib.hid (Yc.out.step bi)
  replace Ye := Lib.hid (Ye.out.step bi)
  replace HO := Lib.hid (HO.out.step bi)
  have Yi := Lib.hid (yi)
  clear bi yi
  go_wp2_with fail
  refine Put_any Nn w.heap.size 0 0 _ _ .nil [] (List.replicate 65537 0) _ _ _ wi (Nn.lt _) HZ.out.here HO.out.here (Sl.nil _ _ _ _ _) Yi.out.here (Nat.zero_le _) (Nat.le_refl _) (by decide) _ ?_ (fun _ h1 => absurd h1 (by rw [List.length_replicate]; decide))
  intro _
  clear ci
  clear Yi
  go_wp2_with fail
  refine (Put_x w.heap.size 0 0 0 0 0 .nil [] [] _ _ _ wi HZ.out.here (.inl ⟨rfl, rfl⟩) (Sl.nil _ _ _ _ _) (Sl.nil _ _ _ _ _) (Nat.zero_le _) (Nat.zero_le _) Gr.nil (by decide) (by decide) (by decide)).mono ?_
  rintro e wj ⟨qx, rfl, hB, -, hx⟩
  obtain ⟨x, ex⟩ : ∃ x, x = T.nil.put [] [] := ⟨_, rfl⟩
  rw [← ex] at hx
  have Hgx : Hid (Gr x 1) := Lib.hid (by rw [ex]; exact Gr.nil.put _ _ (by decide) (by decide))
  have Hxg : Hid (getL [] x.toL = some []) := Lib.hid (by rw [ex]; decide)
  clear ex
  replace HB := Lib.hid (HB.out.step hB)
  replace HZ := Lib.hid (HZ.out.step hB)
  replace HT := Lib.hid (HT.out.step hB)
  replace HV := Lib.hid (HV.out.step hB)
  replace Yc := Lib.hid (Yc.out.step hB)
  replace Ye := Lib.hid (Ye.out.step hB)
  replace HO := Lib.hid (HO.out.step hB)
  have HX := Lib.hid (Tr.kp hx HZ.out.here)
  clear hB hx
  go_wp2_with fail
  refine Get_u w.heap.size 0 0 1 x [] _ _ wj HZ.out.here HX.out.here (Sl.nil _ _ _ _ _) Hgx.out [] true (by rw [Hxg.out]; rfl) (by rw [Hxg.out]; rfl) _ (fun wk a5 c5 hB _ => ?_)
  replace HB := Lib.hid (HB.out.step hB)
  replace HZ := Lib.hid (HZ.out.step hB)
  replace HT := Lib.hid (HT.out.step hB)
  replace HV := Lib.hid (HV.out.step hB)
  replace Yc := Lib.hid (Yc.out.step hB)
  replace Ye := Lib.hid (Ye.out.step hB)
  replace HO := Lib.hid (HO.out.step hB)
  replace HX := Lib.hid (HX.out.step hB)
  clear HX
  clear hB
  go_wp2_with fail
  refine Seek_any Nn w.heap.size 0 0 .nil [] _ _ wk (Nn.lt _) HZ.out.here (.inl ⟨rfl, rfl⟩) (Sl.nil _ _ _ _ _) (Nat.zero_le _) (by decide) (fun _ h => by cases h) _ (fun _ wl hB => ?_) (fun n en hn => absurd hn (Nat.not_lt_zero _))
  replace HB := Lib.hid (HB.out.step hB)
  replace HZ := Lib.hid (HZ.out.step hB)
  replace HT := Lib.hid (HT.out.step hB)
  replace HV := Lib.hid (HV.out.step hB)
  replace Yc := Lib.hid (Yc.out.step hB)
  replace Ye := Lib.hid (Ye.out.step hB)
  replace HO := Lib.hid (HO.out.step hB)
  clear hB
  have hal := alloc_below wl (.cells #[.slice none 0 0, .slice none 0 0] 43)
  replace HB := Lib.hid (HB.out.step hal)
  replace HZ := Lib.hid (HZ.out.step hal)
  replace HT := Lib.hid (HT.out.step hal)
  replace HV := Lib.hid (HV.out.step hal)
  replace Yc := Lib.hid (Yc.out.step hal)
  replace Ye := Lib.hid (Ye.out.step hal)
  replace HO := Lib.hid (HO.out.step hal)
  clear hal
  go_wp2_with fail
  refine At_any Nn w.heap.size .nil 0 _ (wl.alloc (.cells #[.slice none 0 0, .slice none 0 0] 43)) (Nn.lt _) HZ.out.here HO.out.here (by decide) (fun _ h => by cases h) _ (fun _ wm hB => ?_) (fun n en hn => absurd hn (Nat.not_lt_zero _))
  replace HB := Lib.hid (HB.out.step hB)
  replace HZ := Lib.hid (HZ.out.step hB)
  replace HT := Lib.hid (HT.out.step hB)
  replace HV := Lib.hid (HV.out.step hB)
  replace Yc := Lib.hid (Yc.out.step hB)
  replace Ye := Lib.hid (Ye.out.step hB)
  replace HO := Lib.hid (HO.out.step hB)
  clear hB
  have hal := alloc_below wm (.cells #[.slice none 0 0, .slice none 0 0] 43)
  replace HB := Lib.hid (HB.out.step hal)
  replace HZ := Lib.hid (HZ.out.step hal)
  replace HT := Lib.hid (HT.out.step hal)
  replace HV := Lib.hid (HV.out.step hal)
  replace Yc := Lib.hid (Yc.out.step hal)
  replace Ye := Lib.hid (Ye.out.step hal)
  replace HO := Lib.hid (HO.out.step hal)
  clear hal
  go_wp2_with fail
  refine Len_any Nn w.heap.size .nil _ _ (.inl ⟨rfl, rfl⟩) _ ?_
  rw [show ((T.many .nil : Nat) : Int) = 0 from rfl]
  go_wp2_with fail
  refine Rank_any Nn w.heap.size 0 0 .nil [] _ _ _ HO.out.here (Sl.nil _ _ _ _ _) (by decide) _ ?_
  rw [show ((T.rank [] .nil : Nat) : Int) = 0 from rfl]
  go_wp2_with fail
  refine Range_any Nn w.heap.size 0 0 0 0 .nil [] [] _ _ _ 9 _ (Nn.lt _) HZ.out.here (.inl ⟨rfl, rfl⟩) (Sl.nil _ _ _ _ _) (Nat.zero_le _) (Sl.nil _ _ _ _ _) (Nat.zero_le _) (by decide) (fun _ h => by cases h) _ (fun wn vl psl hB hPl => ?_)
  rw [show rangeL [] 9 (T.from [] .nil) = [] from rfl] at hPl
  obtain ⟨pn, cn, rfl⟩ := hPl.form
  clear hPl
  replace HB := Lib.hid (HB.out.step hB)
  replace HZ := Lib.hid (HZ.out.step hB)
  replace HT := Lib.hid (HT.out.step hB)
  replace HV := Lib.hid (HV.out.step hB)
  replace Yc := Lib.hid (Yc.out.step hB)
  replace Ye := Lib.hid (Ye.out.step hB)
  replace HO := Lib.hid (HO.out.step hB)
  clear hB
  rw [List.length_nil]
  go_wp2_with fail
  refine Cut_any Nn w.heap.size 0 0 .nil [] _ _ wn (Nn.lt _) HZ.out.here (.inl ⟨rfl, rfl⟩) (Sl.nil _ _ _ _ _) (Nat.zero_le _) (by decide) _ (fun wo qc hB _ hc => ?_)
  replace HB := Lib.hid (HB.out.step hB)
  replace HZ := Lib.hid (HZ.out.step hB)
  replace HT := Lib.hid (HT.out.step hB)
  replace HV := Lib.hid (HV.out.step hB)
  replace Yc := Lib.hid (Yc.out.step hB)
  replace Ye := Lib.hid (Ye.out.step hB)
  replace HO := Lib.hid (HO.out.step hB)
  clear hB
  go_wp2_with fail
  refine Len_any Nn w.heap.size _ _ wo hc _ ?_
  rw [show ((T.many (T.cut [] .nil) : Nat) : Int) = 0 from rfl]
  clear hc
  go_wp2_with fail
  refine Diff_any w.heap.size .nil .nil _ _ wo HZ.out.here HO.out.here (.inl ⟨rfl, rfl⟩) (by decide) (fun _ h => by cases h) _ (fun wp vd psd hB hPd => ?_)
  rw [show (T.from [] .nil).filter (dfP .nil) = [] from rfl] at hPd
  obtain ⟨pd, cd, rfl⟩ := hPd.form
  clear hPd
  replace HB := Lib.hid (HB.out.step hB)
  replace HZ := Lib.hid (HZ.out.step hB)
  replace HT := Lib.hid (HT.out.step hB)
  replace HV := Lib.hid (HV.out.step hB)
  replace Yc := Lib.hid (Yc.out.step hB)
  replace Ye := Lib.hid (Ye.out.step hB)
  replace HO := Lib.hid (HO.out.step hB)
  clear hB
  rw [List.length_nil]
  go_wp2_with fail
  refine Range_any Nn w.heap.size 0 0 0 0 t [] [] _ _ _ (-1) _ (Nn.lt _) HZ.out.here HT.out.here (Sl.nil _ _ _ _ _) (Nat.zero_le _) (Sl.nil _ _ _ _ _) (Nat.zero_le _) hm6.out Hg.out.len8 _ (fun wq vq psq hB hPq => ?_)
  rw [show rangeL [] (-1) (t.from []) = [] by simp [rangeL]] at hPq
  obtain ⟨pq, cq, rfl⟩ := hPq.form
  clear hPq
  replace HB := Lib.hid (HB.out.step hB)
  replace HZ := Lib.hid (HZ.out.step hB)
  replace HT := Lib.hid (HT.out.step hB)
  replace HV := Lib.hid (HV.out.step hB)
  replace Yc := Lib.hid (Yc.out.step hB)
  replace Ye := Lib.hid (Ye.out.step hB)
  replace HO := Lib.hid (HO.out.step hB)
  clear hB
  rw [List.length_nil]
  go_wp2_with fail
  refine alive_any wq _ (fun wr hB => ?_)
  have hr := HR.out wr (HB.out.here.trans (hB.mono HB.out.here.size))
  clear hB
  go_wp2_with fail
  first | exact hr | exact fin hr rfl
end Go.Proofs.Ytmlcnfomiemdpaa
