/- SchemaMakes: the walk. (Printed by schm.py.) -/
import Derived.Test.YtkcpanaojehgiaaSchN
namespace Go.Proofs.Ytkcpanaojehgiaa
open Go.RowKit
set_option linter.unusedVariables false
set_option linter.unusedSimpArgs false

set_option maxRecDepth 100000 in
set_option maxHeartbeats 8000000 in
theorem SchemaMakes_any (lo hi : Nat) (l : List Ft) (v : Value) (name : List UInt8) (id : Int) (w : World) (hv : Fts lo hi w v l) (hhi : hi ≤ w.heap.size) (hlen : l.length ≤ 2000000000000) (hl : ∀ x ∈ l, x.v.s.length ≤ 9223372036854775807) (hnl : name.length ≤ 9223372036854775807)
    (R : Ending → World → Prop) (hR : ∀ w', Below w.heap.size w w' → R (.returned (.bool true)) w') : Calls Try.prog 4 #[v, .string ⟨name.toArray⟩, .int .i64 id] w R := by
  have HR := Lib.hid hR
  have Hv := Lib.hid hv
  have Hl := Lib.hid hl
  obtain ⟨av, cv, rfl, -, -, -, -⟩ := hv.form
  clear hR hv hl
  go_enter Try.func4, Try.ntmps4
  go_wp2_with fail
  refine fGreat_any lo hi l _ w Hv.out hhi _ (fun w1 hB1 => ?_)
  have HB1 := Lib.hid hB1
  have hz1 := hB1.size
  clear hB1
  cases hg : greatB l
  case true =>
    have hr := HR.out w1 HB1.out
    go_wp2_with fail
    first | exact hr | exact fin hr rfl
  by_cases hbig : 1000 < name.length
  · have hb2 : (1000 : Int) < (name.length : Int) := by omega
    have hr := HR.out w1 HB1.out
    go_wp2_with fail
    first | exact hr | exact fin hr rfl
  have hb2 : ¬ (1000 : Int) < (name.length : Int) := by omega
  clear hg hbig
  go_wp2_with fail
  refine Of_any lo hi l _ w1 (Sl.below Hv.out ftE_loc HB1.out hhi) (by omega) hlen Hl.out _ (fun w2 v7 hB2 ho2 => ?_)
  have HB2 := Lib.hid (HB1.out.trans (hB2.mono hz1))
  have hz2 := hB2.size
  have Ho2 := Lib.hid ho2
  clear hB2 ho2
  obtain ⟨p7, c7, rfl⟩ := Own.slice Ho2.out
  generalize hX : ofAttrs l = X at *
  generalize hev : ofErr l = ev at *
  go_wp2_with fail
  refine refOf_any lo hi l _ w2 (Sl.below Hv.out ftE_loc HB2.out hhi) (by omega) hlen Hl.out _ (fun w3 v9 hB3 ho3 => ?_)
  have Ho2b := Lib.hid (Own.kept Ho2.out hB3)
  have HB3 := Lib.hid (HB2.out.trans (hB3.mono (by omega)))
  have hz3 := hB3.size
  have Ho3 := Lib.hid ho3
  clear hB3 ho3
  obtain ⟨p9, c9, rfl⟩ := Own.slice Ho3.out
  rw [hX] at Ho3 ⊢
  rw [hev]
  clear hX hev
  go_wp2_with fail
  refine Same_any _ _ _ _ _ _ X w3 (OwnA.attrs Ho2b.out) (OwnA.attrs Ho3.out) (Nat.le_refl _) (Nat.le_refl _) _ (fun w4 hB4 => ?_)
  have Ho2c := Lib.hid (Own.kept Ho2b.out hB4)
  have Ho3c := Lib.hid (Own.kept Ho3.out hB4)
  have HB4 := Lib.hid (HB3.out.trans (hB4.mono (by omega)))
  have hz4 := hB4.size
  clear hB4
  go_wp2_with fail
  refine Builtin_any w4 _ (fun w5 v5 hB5 ho5 => ?_)
  have Ho5 := Lib.hid ho5
  have Ho2d := Lib.hid (Own.kept Ho2c.out hB5)
  have Ho3d := Lib.hid (Own.kept Ho3c.out hB5)
  have HB5 := Lib.hid (HB4.out.trans (hB5.mono (by omega)))
  have hz5 := hB5.size
  obtain ⟨p5, c5, rfl⟩ := Own.slice ho5
  clear hB5 ho5
  go_wp2_with fail
  refine refBuiltin_any w5 _ (fun w6 v6 hB6 ho6 => ?_)
  have Ho6 := Lib.hid ho6
  have Ho5b := Lib.hid (Own.kept Ho5.out hB6)
  have Ho2e := Lib.hid (Own.kept Ho2d.out hB6)
  have Ho3e := Lib.hid (Own.kept Ho3d.out hB6)
  have HB6 := Lib.hid (HB5.out.trans (hB6.mono (by omega)))
  have hz6 := hB6.size
  obtain ⟨p6, c6, rfl⟩ := Own.slice ho6
  clear hB6 ho6
  go_wp2_with fail
  refine Same_any _ _ _ _ _ _ builtinL w6 (OwnA.attrs Ho5b.out) (OwnA.attrs Ho6.out) (Nat.le_refl _) (Nat.le_refl _) _ (fun w7 hB7 => ?_)
  have Ho2f := Lib.hid (Own.kept Ho2e.out hB7)
  have Ho3f := Lib.hid (Own.kept Ho3e.out hB7)
  have HB7 := Lib.hid (HB6.out.trans (hB7.mono (by omega)))
  have hz7 := hB7.size
  clear hB7
  obtain ⟨Y, hY⟩ : ∃ Y, Y = findA X (X.findIdx? (byName name)) := ⟨_, rfl⟩
  obtain ⟨Z, hZ⟩ : ∃ Z, Z = findA X (X.findIdx? (byID id)) := ⟨_, rfl⟩
  obtain ⟨yb, hyb⟩ : ∃ yb, yb = (X.findIdx? (byName name)).isSome := ⟨_, rfl⟩
  obtain ⟨zb, hzb⟩ : ∃ zb, zb = (X.findIdx? (byID id)).isSome := ⟨_, rfl⟩
  have HY := Lib.hid hY
  have HZ := Lib.hid hZ
  have HYb := Lib.hid hyb
  have HZb := Lib.hid hzb
  clear hY hZ hyb hzb
  go_wp2_with fail
  refine ByName_any _ _ _ X name w7 (OwnA.attrs Ho2f.out) (Nat.le_refl _) _ (fun wc8 hBc => ?_)
  rw [← HY.out, ← HYb.out]
  have HBc8 := Lib.hid (HB7.out.trans (hBc.mono (by omega)))
  have hzc8 := hBc.size
  replace Ho2f := Lib.hid (Own.kept Ho2f.out hBc)
  replace Ho3f := Lib.hid (Own.kept Ho3f.out hBc)
  have hal8 := alloc_below wc8 (.cells #[.int .i64 Y.id, .string ⟨Y.name.toArray⟩, .int .i64 Y.type, .bool Y.many, .int .i64 Y.unique, .bool Y.part, .bool Y.index] 24)
  have hbk8 := Blk.new wc8 [.int .i64 Y.id, .string ⟨Y.name.toArray⟩, .int .i64 Y.type, .bool Y.many, .int .i64 Y.unique, .bool Y.part, .bool Y.index] 24 rfl
  clear hBc
  go_upto_region 8 with fail
  generalize wc8.alloc (.cells #[.int .i64 Y.id, .string ⟨Y.name.toArray⟩, .int .i64 Y.type, .bool Y.many, .int .i64 Y.unique, .bool Y.part, .bool Y.index] 24) = wd8 at *
  have HBd8 := Lib.hid (HBc8.out.trans (hal8.mono (by omega)))
  have hzd8 := hal8.size
  replace Ho2f := Lib.hid (Own.kept Ho2f.out hal8)
  replace Ho3f := Lib.hid (Own.kept Ho3f.out hal8)
  have Hbk8 := Lib.hid hbk8
  clear hal8 hbk8
  go_wp2_with fail
  refine refByName_any _ _ _ X name wd8 (OwnA.attrs Ho3f.out) (Nat.le_refl _) _ (fun wc9 hBc => ?_)
  rw [← HY.out, ← HYb.out]
  have HBc9 := Lib.hid (HBd8.out.trans (hBc.mono (by omega)))
  have hzc9 := hBc.size
  replace Ho2f := Lib.hid (Own.kept Ho2f.out hBc)
  replace Ho3f := Lib.hid (Own.kept Ho3f.out hBc)
  replace Hbk8 := Lib.hid (Hbk8.out.below hBc Hbk8.out.lt)
  have hal9 := alloc_below wc9 (.cells #[.int .i64 Y.id, .string ⟨Y.name.toArray⟩, .int .i64 Y.type, .bool Y.many, .int .i64 Y.unique, .bool Y.part, .bool Y.index] 24)
  have hbk9 := Blk.new wc9 [.int .i64 Y.id, .string ⟨Y.name.toArray⟩, .int .i64 Y.type, .bool Y.many, .int .i64 Y.unique, .bool Y.part, .bool Y.index] 24 rfl
  clear hBc
  go_upto_region 9 with fail
  generalize wc9.alloc (.cells #[.int .i64 Y.id, .string ⟨Y.name.toArray⟩, .int .i64 Y.type, .bool Y.many, .int .i64 Y.unique, .bool Y.part, .bool Y.index] 24) = wd9 at *
  have HBd9 := Lib.hid (HBc9.out.trans (hal9.mono (by omega)))
  have hzd9 := hal9.size
  replace Ho2f := Lib.hid (Own.kept Ho2f.out hal9)
  replace Ho3f := Lib.hid (Own.kept Ho3f.out hal9)
  replace Hbk8 := Lib.hid (Hbk8.out.below hal9 Hbk8.out.lt)
  have Hbk9 := Lib.hid hbk9
  clear hal9 hbk9
  go_wp2_with fail
  refine ByID_any _ _ _ X id wd9 (OwnA.attrs Ho2f.out) (Nat.le_refl _) _ (fun wc10 hBc => ?_)
  rw [← HZ.out, ← HZb.out]
  have HBc10 := Lib.hid (HBd9.out.trans (hBc.mono (by omega)))
  have hzc10 := hBc.size
  replace Ho2f := Lib.hid (Own.kept Ho2f.out hBc)
  replace Ho3f := Lib.hid (Own.kept Ho3f.out hBc)
  replace Hbk8 := Lib.hid (Hbk8.out.below hBc Hbk8.out.lt)
  replace Hbk9 := Lib.hid (Hbk9.out.below hBc Hbk9.out.lt)
  have hal10 := alloc_below wc10 (.cells #[.int .i64 Z.id, .string ⟨Z.name.toArray⟩, .int .i64 Z.type, .bool Z.many, .int .i64 Z.unique, .bool Z.part, .bool Z.index] 24)
  have hbk10 := Blk.new wc10 [.int .i64 Z.id, .string ⟨Z.name.toArray⟩, .int .i64 Z.type, .bool Z.many, .int .i64 Z.unique, .bool Z.part, .bool Z.index] 24 rfl
  clear hBc
  go_upto_region 10 with fail
  generalize wc10.alloc (.cells #[.int .i64 Z.id, .string ⟨Z.name.toArray⟩, .int .i64 Z.type, .bool Z.many, .int .i64 Z.unique, .bool Z.part, .bool Z.index] 24) = wd10 at *
  have HBd10 := Lib.hid (HBc10.out.trans (hal10.mono (by omega)))
  have hzd10 := hal10.size
  replace Ho2f := Lib.hid (Own.kept Ho2f.out hal10)
  replace Ho3f := Lib.hid (Own.kept Ho3f.out hal10)
  replace Hbk8 := Lib.hid (Hbk8.out.below hal10 Hbk8.out.lt)
  replace Hbk9 := Lib.hid (Hbk9.out.below hal10 Hbk9.out.lt)
  have Hbk10 := Lib.hid hbk10
  clear hal10 hbk10
  go_wp2_with fail
  refine refByID_any _ _ _ X id wd10 (OwnA.attrs Ho3f.out) (Nat.le_refl _) _ (fun wc11 hBc => ?_)
  rw [← HZ.out, ← HZb.out]
  have HBc11 := Lib.hid (HBd10.out.trans (hBc.mono (by omega)))
  have hzc11 := hBc.size
  replace Ho2f := Lib.hid (Own.kept Ho2f.out hBc)
  replace Ho3f := Lib.hid (Own.kept Ho3f.out hBc)
  replace Hbk8 := Lib.hid (Hbk8.out.below hBc Hbk8.out.lt)
  replace Hbk9 := Lib.hid (Hbk9.out.below hBc Hbk9.out.lt)
  replace Hbk10 := Lib.hid (Hbk10.out.below hBc Hbk10.out.lt)
  have hal11 := alloc_below wc11 (.cells #[.int .i64 Z.id, .string ⟨Z.name.toArray⟩, .int .i64 Z.type, .bool Z.many, .int .i64 Z.unique, .bool Z.part, .bool Z.index] 24)
  have hbk11 := Blk.new wc11 [.int .i64 Z.id, .string ⟨Z.name.toArray⟩, .int .i64 Z.type, .bool Z.many, .int .i64 Z.unique, .bool Z.part, .bool Z.index] 24 rfl
  clear hBc
  go_upto_region 11 with fail
  generalize wc11.alloc (.cells #[.int .i64 Z.id, .string ⟨Z.name.toArray⟩, .int .i64 Z.type, .bool Z.many, .int .i64 Z.unique, .bool Z.part, .bool Z.index] 24) = wd11 at *
  have HBd11 := Lib.hid (HBc11.out.trans (hal11.mono (by omega)))
  have hzd11 := hal11.size
  replace Ho2f := Lib.hid (Own.kept Ho2f.out hal11)
  replace Ho3f := Lib.hid (Own.kept Ho3f.out hal11)
  replace Hbk8 := Lib.hid (Hbk8.out.below hal11 Hbk8.out.lt)
  replace Hbk9 := Lib.hid (Hbk9.out.below hal11 Hbk9.out.lt)
  replace Hbk10 := Lib.hid (Hbk10.out.below hal11 Hbk10.out.lt)
  have Hbk11 := Lib.hid hbk11
  clear hal11 hbk11
  obtain ⟨q80_, q81_, q82_, q83_, q84_, q85_, q86_⟩ := Hbk8.out.cells.c7
  obtain ⟨q90_, q91_, q92_, q93_, q94_, q95_, q96_⟩ := Hbk9.out.cells.c7
  obtain ⟨q100_, q101_, q102_, q103_, q104_, q105_, q106_⟩ := Hbk10.out.cells.c7
  obtain ⟨q110_, q111_, q112_, q113_, q114_, q115_, q116_⟩ := Hbk11.out.cells.c7
  have hr := HR.out wd11 HBd11.out
  go_wp2_with fail
  all_goals first | exact hr | exact fin hr rfl | (exact fin hr (by simp))
end Go.Proofs.Ytkcpanaojehgiaa
