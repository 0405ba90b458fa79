/- SchemaNames: the walk. (Printed by snm.py.) -/
import Derived.Test.YtkcpanaojehgiaaSnmP
import Derived.Test.YtkcpanaojehgiaaSchN
namespace Go.Proofs.Ytkcpanaojehgiaa
open Go.RowKit
set_option linter.unusedVariables false
set_option linter.unusedSimpArgs false

set_option maxRecDepth 100000 in
set_option maxHeartbeats 16000000 in
theorem SchemaNames_any (w : World) (R : Ending → World → Prop) (hR : ∀ w', Below w.heap.size w w' → R (.returned (.bool true)) w') : Calls Try.prog 8 #[] w R := by
  have HR := Lib.hid hR
  clear hR
  go_enter Try.func8, Try.ntmps8
  have HB := Lib.hid (Below.kp (Below.refl w.heap.size w) (Nat.le_refl _))
  go_wp2_with fail
  refine number_any 5 w _ (fun w1 hB => ?_)
  replace HB := Lib.hid (HB.out.step hB)
  clear hB
  go_wp2_with fail
  refine fact_any 11 10 ⟨1, 5, []⟩ w1 _ (fun w2 b2 hB hbb2 hk => ?_)
  have hlb2 := hk.lt
  replace HB := Lib.hid (HB.out.step hB)
  have Kb2 := Lib.hid (Blk.kp hk)
  clear hB hk
  go_wp2_with fail
  have hf : Fts 0 (w2.alloc (.cells #[.int .i64 11, .int .i64 10, .int .i64 1, .int .i64 5, .string ⟨#[]⟩, .slice (some ⟨b2, 0, none⟩) 1 1] 49)).heap.size (w2.alloc (.cells #[.int .i64 11, .int .i64 10, .int .i64 1, .int .i64 5, .string ⟨#[]⟩, .slice (some ⟨b2, 0, none⟩) 1 1] 49)) (.slice (some ⟨w2.heap.size, 0, none⟩) 1 1) [⟨11, 10, ⟨1, 5, []⟩, wholeL⟩] := lit_fts [⟨⟨11, 10, ⟨1, 5, []⟩, wholeL⟩, some ⟨b2, 0, none⟩, 1, 1⟩] w2 (by simp) (fun p hp => by
    simp only [List.mem_cons, List.not_mem_nil, or_false] at hp
    rcases hp with rfl
    · exact spans_one Kb2.out.here)
  have hal := alloc_below w2 (.cells #[.int .i64 11, .int .i64 10, .int .i64 1, .int .i64 5, .string ⟨#[]⟩, .slice (some ⟨b2, 0, none⟩) 1 1] 49)
  replace HB := Lib.hid (HB.out.step hal)
  replace Kb2 := Lib.hid (Kb2.out.step hal)
  clear hal
  refine few_any 0 _ [⟨11, 10, ⟨1, 5, []⟩, wholeL⟩] _ _ hf (Nat.le_refl _) (by simp) _ (fun w3 v hB hv => ?_)
  replace HB := Lib.hid (HB.out.step hB)
  replace Kb2 := Lib.hid (Kb2.out.step hB)
  have Hv := Lib.hid hv
  obtain ⟨a, c, rfl, -, -, -, -⟩ := hv.form
  clear hB hv hf
  go_wp2_with fail
  refine Holds_any 0 _ (fewL ++ [⟨11, 10, ⟨1, 5, []⟩, wholeL⟩]) _ _ Hv.out (Nat.le_refl _) (by decide) (by decide) (by decide) _ (fun w4 hB => ?_)
  replace HB := Lib.hid (HB.out.step hB)
  replace Kb2 := Lib.hid (Kb2.out.step hB)
  rw [show holdsC (fewL ++ [⟨11, 10, ⟨1, 5, []⟩, wholeL⟩]) = 0 from nm1]
  clear hB Hv
  go_wp2_with fail
  clear Kb2
  refine fact_any 11 10 ⟨3, 0, [120]⟩ w4 _ (fun w5 b5 hB hbb5 hk => ?_)
  have hlb5 := hk.lt
  replace HB := Lib.hid (HB.out.step hB)
  have Kb5 := Lib.hid (Blk.kp hk)
  clear hB hk
  go_wp2_with fail
  have hf : Fts 0 (w5.alloc (.cells #[.int .i64 11, .int .i64 10, .int .i64 3, .int .i64 0, .string ⟨#[120]⟩, .slice (some ⟨b5, 0, none⟩) 1 1] 49)).heap.size (w5.alloc (.cells #[.int .i64 11, .int .i64 10, .int .i64 3, .int .i64 0, .string ⟨#[120]⟩, .slice (some ⟨b5, 0, none⟩) 1 1] 49)) (.slice (some ⟨w5.heap.size, 0, none⟩) 1 1) [⟨11, 10, ⟨3, 0, [120]⟩, wholeL⟩] := lit_fts [⟨⟨11, 10, ⟨3, 0, [120]⟩, wholeL⟩, some ⟨b5, 0, none⟩, 1, 1⟩] w5 (by simp) (fun p hp => by
    simp only [List.mem_cons, List.not_mem_nil, or_false] at hp
    rcases hp with rfl
    · exact spans_one Kb5.out.here)
  have hal := alloc_below w5 (.cells #[.int .i64 11, .int .i64 10, .int .i64 3, .int .i64 0, .string ⟨#[120]⟩, .slice (some ⟨b5, 0, none⟩) 1 1] 49)
  replace HB := Lib.hid (HB.out.step hal)
  replace Kb5 := Lib.hid (Kb5.out.step hal)
  clear hal
  refine few_any 0 _ [⟨11, 10, ⟨3, 0, [120]⟩, wholeL⟩] _ _ hf (Nat.le_refl _) (by simp) _ (fun w6 v hB hv => ?_)
  replace HB := Lib.hid (HB.out.step hB)
  replace Kb5 := Lib.hid (Kb5.out.step hB)
  have Hv := Lib.hid hv
  obtain ⟨a, c, rfl, -, -, -, -⟩ := hv.form
  clear hB hv hf
  go_wp2_with fail
  refine Holds_any 0 _ (fewL ++ [⟨11, 10, ⟨3, 0, [120]⟩, wholeL⟩]) _ _ Hv.out (Nat.le_refl _) (by decide) (by decide) (by decide) _ (fun w7 hB => ?_)
  replace HB := Lib.hid (HB.out.step hB)
  replace Kb5 := Lib.hid (Kb5.out.step hB)
  rw [show holdsC (fewL ++ [⟨11, 10, ⟨3, 0, [120]⟩, wholeL⟩]) = 72 from nm2]
  clear hB Hv
  go_wp2_with fail
  clear Kb5
  refine number_any 5 w7 _ (fun w8 hB => ?_)
  replace HB := Lib.hid (HB.out.step hB)
  clear hB
  go_upto_region 4 with fail
  have hzA : w.heap.size ≤ w8.heap.size := HB.out.here.size
  have hB1 := alloc_below w8 (.cells #[.int .i64 0, .int .i64 9] 58)
  have hk1 := Blk.new w8 [.int .i64 0, .int .i64 9] 58 rfl
  replace HB := Lib.hid (HB.out.step hB1)
  clear hB1
  have KSA := Lib.hid (Blk.kp hk1)
  clear hk1
  have hB2 := alloc_below (w8.alloc (.cells #[.int .i64 0, .int .i64 9] 58)) (.cells #[.int .i64 11, .int .i64 10, .int .i64 1, .int .i64 5, .string ⟨#[]⟩, .slice (some ⟨w8.heap.size, 0, none⟩) 1 1] 49)
  have hk2 := Blk.new (w8.alloc (.cells #[.int .i64 0, .int .i64 9] 58)) [.int .i64 11, .int .i64 10, .int .i64 1, .int .i64 5, .string ⟨#[]⟩, .slice (some ⟨w8.heap.size, 0, none⟩) 1 1] 49 (n := w8.heap.size + 1) (by simp)
  replace HB := Lib.hid (HB.out.step hB2)
  replace KSA := Lib.hid (KSA.out.step hB2)
  clear hB2
  have KA := Lib.hid (Blk.kp hk2)
  have ZA := Lib.hid (size_kp (n := w8.heap.size + 2) hk2.lt)
  clear hk2
  generalize (w8.alloc (.cells #[.int .i64 0, .int .i64 9] 58)).alloc (.cells #[.int .i64 11, .int .i64 10, .int .i64 1, .int .i64 5, .string ⟨#[]⟩, .slice (some ⟨w8.heap.size, 0, none⟩) 1 1] 49) = w9 at *
  go_wp2_with fail
  refine number_any 6 w9 _ (fun w10 hB => ?_)
  replace HB := Lib.hid (HB.out.step hB)
  replace KSA := Lib.hid (KSA.out.step hB)
  replace KA := Lib.hid (KA.out.step hB)
  replace ZA := Lib.hid (ZA.out.step hB)
  clear hB
  go_upto_region 5 with fail
  have hAB := ZA.out.here
  have hzB : w.heap.size ≤ w10.heap.size := HB.out.here.size
  have hB1 := alloc_below w10 (.cells #[.int .i64 8, .int .i64 20] 58)
  have hk1 := Blk.new w10 [.int .i64 8, .int .i64 20] 58 rfl
  replace HB := Lib.hid (HB.out.step hB1)
  replace KSA := Lib.hid (KSA.out.step hB1)
  replace KA := Lib.hid (KA.out.step hB1)
  replace ZA := Lib.hid (ZA.out.step hB1)
  clear hB1
  have KSB := Lib.hid (Blk.kp hk1)
  clear hk1
  have hB2 := alloc_below (w10.alloc (.cells #[.int .i64 8, .int .i64 20] 58)) (.cells #[.int .i64 11, .int .i64 10, .int .i64 1, .int .i64 6, .string ⟨#[]⟩, .slice (some ⟨w10.heap.size, 0, none⟩) 1 1] 49)
  have hk2 := Blk.new (w10.alloc (.cells #[.int .i64 8, .int .i64 20] 58)) [.int .i64 11, .int .i64 10, .int .i64 1, .int .i64 6, .string ⟨#[]⟩, .slice (some ⟨w10.heap.size, 0, none⟩) 1 1] 49 (n := w10.heap.size + 1) (by simp)
  replace HB := Lib.hid (HB.out.step hB2)
  replace KSA := Lib.hid (KSA.out.step hB2)
  replace KA := Lib.hid (KA.out.step hB2)
  replace ZA := Lib.hid (ZA.out.step hB2)
  replace KSB := Lib.hid (KSB.out.step hB2)
  clear hB2
  have KB := Lib.hid (Blk.kp hk2)
  have ZB := Lib.hid (size_kp (n := w10.heap.size + 2) hk2.lt)
  clear hk2
  generalize (w10.alloc (.cells #[.int .i64 8, .int .i64 20] 58)).alloc (.cells #[.int .i64 11, .int .i64 10, .int .i64 1, .int .i64 6, .string ⟨#[]⟩, .slice (some ⟨w10.heap.size, 0, none⟩) 1 1] 49) = w11 at *
  obtain ⟨z10, z11, z12, z13, z14, z15⟩ := KA.out.here.cells.f6
  simp only [Nat.zero_add] at z11 z12 z13 z14 z15
  obtain ⟨z20, z21, z22, z23, z24, z25⟩ := KB.out.here.cells.f6
  simp only [Nat.zero_add] at z21 z22 z23 z24 z25
  go_wp2_with fail
  have hf : Fts 0 (w11.alloc (.cells #[.int .i64 11, .int .i64 10, .int .i64 1, .int .i64 5, .string ⟨#[]⟩, .slice (some ⟨w8.heap.size, 0, none⟩) 1 1, .int .i64 11, .int .i64 10, .int .i64 1, .int .i64 6, .string ⟨#[]⟩, .slice (some ⟨w10.heap.size, 0, none⟩) 1 1] 49)).heap.size (w11.alloc (.cells #[.int .i64 11, .int .i64 10, .int .i64 1, .int .i64 5, .string ⟨#[]⟩, .slice (some ⟨w8.heap.size, 0, none⟩) 1 1, .int .i64 11, .int .i64 10, .int .i64 1, .int .i64 6, .string ⟨#[]⟩, .slice (some ⟨w10.heap.size, 0, none⟩) 1 1] 49)) (.slice (some ⟨w11.heap.size, 0, none⟩) 2 2) [⟨11, 10, ⟨1, 5, []⟩, [⟨0, 9⟩]⟩, ⟨11, 10, ⟨1, 6, []⟩, [⟨8, 20⟩]⟩] := lit_fts [⟨⟨11, 10, ⟨1, 5, []⟩, [⟨0, 9⟩]⟩, some ⟨w8.heap.size, 0, none⟩, 1, 1⟩, ⟨⟨11, 10, ⟨1, 6, []⟩, [⟨8, 20⟩]⟩, some ⟨w10.heap.size, 0, none⟩, 1, 1⟩] w11 (by simp) (fun p hp => by
    simp only [List.mem_cons, List.not_mem_nil, or_false] at hp
    rcases hp with rfl | rfl
    · exact spans_one KSA.out.here
    · exact spans_one KSB.out.here)
  have hal := alloc_below w11 (.cells #[.int .i64 11, .int .i64 10, .int .i64 1, .int .i64 5, .string ⟨#[]⟩, .slice (some ⟨w8.heap.size, 0, none⟩) 1 1, .int .i64 11, .int .i64 10, .int .i64 1, .int .i64 6, .string ⟨#[]⟩, .slice (some ⟨w10.heap.size, 0, none⟩) 1 1] 49)
  replace HB := Lib.hid (HB.out.step hal)
  replace KSA := Lib.hid (KSA.out.step hal)
  replace KA := Lib.hid (KA.out.step hal)
  replace ZA := Lib.hid (ZA.out.step hal)
  replace KSB := Lib.hid (KSB.out.step hal)
  replace KB := Lib.hid (KB.out.step hal)
  replace ZB := Lib.hid (ZB.out.step hal)
  clear hal
  refine few_any 0 _ [⟨11, 10, ⟨1, 5, []⟩, [⟨0, 9⟩]⟩, ⟨11, 10, ⟨1, 6, []⟩, [⟨8, 20⟩]⟩] _ _ hf (Nat.le_refl _) (by simp) _ (fun w12 v hB hv => ?_)
  replace HB := Lib.hid (HB.out.step hB)
  replace KSA := Lib.hid (KSA.out.step hB)
  replace KA := Lib.hid (KA.out.step hB)
  replace ZA := Lib.hid (ZA.out.step hB)
  replace KSB := Lib.hid (KSB.out.step hB)
  replace KB := Lib.hid (KB.out.step hB)
  replace ZB := Lib.hid (ZB.out.step hB)
  have Hv := Lib.hid hv
  obtain ⟨a, c, rfl, -, -, -, -⟩ := hv.form
  clear hB hv hf
  go_wp2_with fail
  refine Holds_any 0 _ (fewL ++ [⟨11, 10, ⟨1, 5, []⟩, [⟨0, 9⟩]⟩, ⟨11, 10, ⟨1, 6, []⟩, [⟨8, 20⟩]⟩]) _ _ Hv.out (Nat.le_refl _) (by decide) (by decide) (by decide) _ (fun w13 hB => ?_)
  replace HB := Lib.hid (HB.out.step hB)
  replace KSA := Lib.hid (KSA.out.step hB)
  replace KA := Lib.hid (KA.out.step hB)
  replace ZA := Lib.hid (ZA.out.step hB)
  replace KSB := Lib.hid (KSB.out.step hB)
  replace KB := Lib.hid (KB.out.step hB)
  replace ZB := Lib.hid (ZB.out.step hB)
  rw [show holdsC (fewL ++ [⟨11, 10, ⟨1, 5, []⟩, [⟨0, 9⟩]⟩, ⟨11, 10, ⟨1, 6, []⟩, [⟨8, 20⟩]⟩]) = 73 from nm3]
  clear hB Hv
  go_wp2_with fail
  refine number_any 5 w13 _ (fun w14 hB => ?_)
  replace HB := Lib.hid (HB.out.step hB)
  replace KSA := Lib.hid (KSA.out.step hB)
  replace KA := Lib.hid (KA.out.step hB)
  replace ZA := Lib.hid (ZA.out.step hB)
  replace KSB := Lib.hid (KSB.out.step hB)
  replace KB := Lib.hid (KB.out.step hB)
  replace ZB := Lib.hid (ZB.out.step hB)
  clear hB
  go_wp2_with fail
  refine fact_any 11 99 ⟨1, 5, []⟩ w14 _ (fun w15 b15 hB hbb15 hk => ?_)
  have hlb15 := hk.lt
  replace HB := Lib.hid (HB.out.step hB)
  replace KSA := Lib.hid (KSA.out.step hB)
  replace KA := Lib.hid (KA.out.step hB)
  replace ZA := Lib.hid (ZA.out.step hB)
  replace KSB := Lib.hid (KSB.out.step hB)
  replace KB := Lib.hid (KB.out.step hB)
  replace ZB := Lib.hid (ZB.out.step hB)
  have Kb15 := Lib.hid (Blk.kp hk)
  clear hB hk
  go_wp2_with fail
  have hf : Fts 0 (w15.alloc (.cells #[.int .i64 11, .int .i64 99, .int .i64 1, .int .i64 5, .string ⟨#[]⟩, .slice (some ⟨b15, 0, none⟩) 1 1] 49)).heap.size (w15.alloc (.cells #[.int .i64 11, .int .i64 99, .int .i64 1, .int .i64 5, .string ⟨#[]⟩, .slice (some ⟨b15, 0, none⟩) 1 1] 49)) (.slice (some ⟨w15.heap.size, 0, none⟩) 1 1) [⟨11, 99, ⟨1, 5, []⟩, wholeL⟩] := lit_fts [⟨⟨11, 99, ⟨1, 5, []⟩, wholeL⟩, some ⟨b15, 0, none⟩, 1, 1⟩] w15 (by simp) (fun p hp => by
    simp only [List.mem_cons, List.not_mem_nil, or_false] at hp
    rcases hp with rfl
    · exact spans_one Kb15.out.here)
  have hal := alloc_below w15 (.cells #[.int .i64 11, .int .i64 99, .int .i64 1, .int .i64 5, .string ⟨#[]⟩, .slice (some ⟨b15, 0, none⟩) 1 1] 49)
  replace HB := Lib.hid (HB.out.step hal)
  replace KSA := Lib.hid (KSA.out.step hal)
  replace KA := Lib.hid (KA.out.step hal)
  replace ZA := Lib.hid (ZA.out.step hal)
  replace KSB := Lib.hid (KSB.out.step hal)
  replace KB := Lib.hid (KB.out.step hal)
  replace ZB := Lib.hid (ZB.out.step hal)
  replace Kb15 := Lib.hid (Kb15.out.step hal)
  clear hal
  refine few_any 0 _ [⟨11, 99, ⟨1, 5, []⟩, wholeL⟩] _ _ hf (Nat.le_refl _) (by simp) _ (fun w16 v hB hv => ?_)
  replace HB := Lib.hid (HB.out.step hB)
  replace KSA := Lib.hid (KSA.out.step hB)
  replace KA := Lib.hid (KA.out.step hB)
  replace ZA := Lib.hid (ZA.out.step hB)
  replace KSB := Lib.hid (KSB.out.step hB)
  replace KB := Lib.hid (KB.out.step hB)
  replace ZB := Lib.hid (ZB.out.step hB)
  replace Kb15 := Lib.hid (Kb15.out.step hB)
  have Hv := Lib.hid hv
  obtain ⟨a, c, rfl, -, -, -, -⟩ := hv.form
  clear hB hv hf
  go_wp2_with fail
  refine Holds_any 0 _ (fewL ++ [⟨11, 99, ⟨1, 5, []⟩, wholeL⟩]) _ _ Hv.out (Nat.le_refl _) (by decide) (by decide) (by decide) _ (fun w17 hB => ?_)
  replace HB := Lib.hid (HB.out.step hB)
  replace KSA := Lib.hid (KSA.out.step hB)
  replace KA := Lib.hid (KA.out.step hB)
  replace ZA := Lib.hid (ZA.out.step hB)
  replace KSB := Lib.hid (KSB.out.step hB)
  replace KB := Lib.hid (KB.out.step hB)
  replace ZB := Lib.hid (ZB.out.step hB)
  replace Kb15 := Lib.hid (Kb15.out.step hB)
  rw [show holdsC (fewL ++ [⟨11, 99, ⟨1, 5, []⟩, wholeL⟩]) = 71 from nm4]
  clear hB Hv
  go_upto_region 7 with fail
  clear Kb15
  obtain ⟨z30, z31, z32, z33, z34, z35⟩ := KB.out.here.cells.f6
  simp only [Nat.zero_add] at z31 z32 z33 z34 z35
  have fz := KSB.out.here.free
  have fz0 := fz 0
  clear fz
  obtain ⟨q0, q1⟩ := KSB.out.here.cells.c2
  simp only [Nat.zero_add] at q1
  have nHB := Lib.hid (Below.kp (Below.setCell (p := ⟨w10.heap.size, 0, none⟩) (HB.out.here) (by show w.heap.size ≤ w10.heap.size; omega) (.int .i64 9)) (by simpa using HB.out.here.size))
  have nKSA := Lib.hid (Blk.kp ((KSA.out.here).other (p := ⟨w10.heap.size, 0, none⟩) (by show ¬ (w8.heap.size) = (w10.heap.size); omega) (.int .i64 9)))
  have nKA := Lib.hid (Blk.kp ((KA.out.here).other (p := ⟨w10.heap.size, 0, none⟩) (by show ¬ (w8.heap.size + 1) = (w10.heap.size); omega) (.int .i64 9)))
  have nZA := Lib.hid (size_kp (w := (w17.setCell ⟨w10.heap.size, 0, none⟩ (.int .i64 9))) (by simpa using ZA.out.here))
  have nKSB := Lib.hid (Blk.kp ((KSB.out.here).set 0 (.int .i64 9)))
  have nKB := Lib.hid (Blk.kp ((KB.out.here).other (p := ⟨w10.heap.size, 0, none⟩) (by show ¬ (w10.heap.size + 1) = (w10.heap.size); omega) (.int .i64 9)))
  have nZB := Lib.hid (size_kp (w := (w17.setCell ⟨w10.heap.size, 0, none⟩ (.int .i64 9))) (by simpa using ZB.out.here))
  simp only [List.set_cons_zero, List.set_cons_succ] at nKSB
  clear HB KSA KA ZA KSB KB ZB
  have HB := nHB
  have KSA := nKSA
  have KA := nKA
  have ZA := nZA
  have KSB := nKSB
  have KB := nKB
  have ZB := nZB
  clear nHB nKSA nKA nZA nKSB nKB nZB
  go_upto_region 8 with fail
  clear q0 q1 fz0
  generalize w17.setCell ⟨w10.heap.size, 0, none⟩ (.int .i64 9) = w18 at *
  obtain ⟨z40, z41, z42, z43, z44, z45⟩ := KA.out.here.cells.f6
  simp only [Nat.zero_add] at z41 z42 z43 z44 z45
  obtain ⟨z50, z51, z52, z53, z54, z55⟩ := KB.out.here.cells.f6
  simp only [Nat.zero_add] at z51 z52 z53 z54 z55
  go_wp2_with fail
  have hf : Fts 0 (w18.alloc (.cells #[.int .i64 11, .int .i64 10, .int .i64 1, .int .i64 5, .string ⟨#[]⟩, .slice (some ⟨w8.heap.size, 0, none⟩) 1 1, .int .i64 11, .int .i64 10, .int .i64 1, .int .i64 6, .string ⟨#[]⟩, .slice (some ⟨w10.heap.size, 0, none⟩) 1 1] 49)).heap.size (w18.alloc (.cells #[.int .i64 11, .int .i64 10, .int .i64 1, .int .i64 5, .string ⟨#[]⟩, .slice (some ⟨w8.heap.size, 0, none⟩) 1 1, .int .i64 11, .int .i64 10, .int .i64 1, .int .i64 6, .string ⟨#[]⟩, .slice (some ⟨w10.heap.size, 0, none⟩) 1 1] 49)) (.slice (some ⟨w18.heap.size, 0, none⟩) 2 2) [⟨11, 10, ⟨1, 5, []⟩, [⟨0, 9⟩]⟩, ⟨11, 10, ⟨1, 6, []⟩, [⟨9, 20⟩]⟩] := lit_fts [⟨⟨11, 10, ⟨1, 5, []⟩, [⟨0, 9⟩]⟩, some ⟨w8.heap.size, 0, none⟩, 1, 1⟩, ⟨⟨11, 10, ⟨1, 6, []⟩, [⟨9, 20⟩]⟩, some ⟨w10.heap.size, 0, none⟩, 1, 1⟩] w18 (by simp) (fun p hp => by
    simp only [List.mem_cons, List.not_mem_nil, or_false] at hp
    rcases hp with rfl | rfl
    · exact spans_one KSA.out.here
    · exact spans_one KSB.out.here)
  have hal := alloc_below w18 (.cells #[.int .i64 11, .int .i64 10, .int .i64 1, .int .i64 5, .string ⟨#[]⟩, .slice (some ⟨w8.heap.size, 0, none⟩) 1 1, .int .i64 11, .int .i64 10, .int .i64 1, .int .i64 6, .string ⟨#[]⟩, .slice (some ⟨w10.heap.size, 0, none⟩) 1 1] 49)
  replace HB := Lib.hid (HB.out.step hal)
  replace KSA := Lib.hid (KSA.out.step hal)
  replace KA := Lib.hid (KA.out.step hal)
  replace ZA := Lib.hid (ZA.out.step hal)
  replace KSB := Lib.hid (KSB.out.step hal)
  replace KB := Lib.hid (KB.out.step hal)
  replace ZB := Lib.hid (ZB.out.step hal)
  clear hal
  refine few_any 0 _ [⟨11, 10, ⟨1, 5, []⟩, [⟨0, 9⟩]⟩, ⟨11, 10, ⟨1, 6, []⟩, [⟨9, 20⟩]⟩] _ _ hf (Nat.le_refl _) (by simp) _ (fun w19 v hB hv => ?_)
  replace HB := Lib.hid (HB.out.step hB)
  replace KSA := Lib.hid (KSA.out.step hB)
  replace KA := Lib.hid (KA.out.step hB)
  replace ZA := Lib.hid (ZA.out.step hB)
  replace KSB := Lib.hid (KSB.out.step hB)
  replace KB := Lib.hid (KB.out.step hB)
  replace ZB := Lib.hid (ZB.out.step hB)
  have Hv := Lib.hid hv
  obtain ⟨a, c, rfl, -, -, -, -⟩ := hv.form
  clear hB hv hf
  go_wp2_with fail
  refine Holds_any 0 _ (fewL ++ [⟨11, 10, ⟨1, 5, []⟩, [⟨0, 9⟩]⟩, ⟨11, 10, ⟨1, 6, []⟩, [⟨9, 20⟩]⟩]) _ _ Hv.out (Nat.le_refl _) (by decide) (by decide) (by decide) _ (fun w20 hB => ?_)
  replace HB := Lib.hid (HB.out.step hB)
  replace KSA := Lib.hid (KSA.out.step hB)
  replace KA := Lib.hid (KA.out.step hB)
  replace ZA := Lib.hid (ZA.out.step hB)
  replace KSB := Lib.hid (KSB.out.step hB)
  replace KB := Lib.hid (KB.out.step hB)
  replace ZB := Lib.hid (ZB.out.step hB)
  rw [show holdsC (fewL ++ [⟨11, 10, ⟨1, 5, []⟩, [⟨0, 9⟩]⟩, ⟨11, 10, ⟨1, 6, []⟩, [⟨9, 20⟩]⟩]) = 0 from nm5]
  clear hB Hv
  go_wp2_with fail
  refine number_any 1 w20 _ (fun w21 hB => ?_)
  replace HB := Lib.hid (HB.out.step hB)
  replace KSA := Lib.hid (KSA.out.step hB)
  replace KA := Lib.hid (KA.out.step hB)
  replace ZA := Lib.hid (ZA.out.step hB)
  replace KSB := Lib.hid (KSB.out.step hB)
  replace KB := Lib.hid (KB.out.step hB)
  replace ZB := Lib.hid (ZB.out.step hB)
  clear hB
  go_wp2_with fail
  have hB21 := ZB.out.here
  refine fact_any 10 4 ⟨1, 1, []⟩ w21 _ (fun w22 b22 hB hbb22 hk => ?_)
  have hlb22 := hk.lt
  replace HB := Lib.hid (HB.out.step hB)
  replace KSA := Lib.hid (KSA.out.step hB)
  replace KA := Lib.hid (KA.out.step hB)
  replace ZA := Lib.hid (ZA.out.step hB)
  replace KSB := Lib.hid (KSB.out.step hB)
  replace KB := Lib.hid (KB.out.step hB)
  replace ZB := Lib.hid (ZB.out.step hB)
  have Kb22 := Lib.hid (Blk.kp hk)
  clear hB hk
  go_wp2_with fail
  have hBU := ZB.out.here
  have hB2 := alloc_below w22 (.cells #[.int .i64 10, .int .i64 4, .int .i64 1, .int .i64 1, .string ⟨#[]⟩, .slice (some ⟨b22, 0, none⟩) 1 1] 49)
  have hk2 := Blk.new w22 [.int .i64 10, .int .i64 4, .int .i64 1, .int .i64 1, .string ⟨#[]⟩, .slice (some ⟨b22, 0, none⟩) 1 1] 49 rfl
  replace HB := Lib.hid (HB.out.step hB2)
  replace KSA := Lib.hid (KSA.out.step hB2)
  replace KA := Lib.hid (KA.out.step hB2)
  replace ZA := Lib.hid (ZA.out.step hB2)
  replace KSB := Lib.hid (KSB.out.step hB2)
  replace KB := Lib.hid (KB.out.step hB2)
  replace ZB := Lib.hid (ZB.out.step hB2)
  replace Kb22 := Lib.hid (Kb22.out.step hB2)
  clear hB2
  have KU := Lib.hid (Blk.kp hk2)
  clear hk2
  generalize w22.alloc (.cells #[.int .i64 10, .int .i64 4, .int .i64 1, .int .i64 1, .string ⟨#[]⟩, .slice (some ⟨b22, 0, none⟩) 1 1] 49) = w23 at *
  refine number_any 5 w23 _ (fun w24 hB => ?_)
  replace HB := Lib.hid (HB.out.step hB)
  replace KSA := Lib.hid (KSA.out.step hB)
  replace KA := Lib.hid (KA.out.step hB)
  replace ZA := Lib.hid (ZA.out.step hB)
  replace KSB := Lib.hid (KSB.out.step hB)
  replace KB := Lib.hid (KB.out.step hB)
  replace ZB := Lib.hid (ZB.out.step hB)
  replace Kb22 := Lib.hid (Kb22.out.step hB)
  replace KU := Lib.hid (KU.out.step hB)
  clear hB
  have fz := KB.out.here.free
  have fz0 := fz 2
  have fz1 := fz 3
  have fz2 := fz 4
  clear fz
  obtain ⟨q0, q1, q2, q3, q4, q5⟩ := KB.out.here.cells.f6
  simp only [Nat.zero_add] at q1 q2 q3 q4 q5
  have nHB := Lib.hid (Below.kp (Below.setCell (p := ⟨w10.heap.size + 1, 4, none⟩) (Below.setCell (p := ⟨w10.heap.size + 1, 3, none⟩) (Below.setCell (p := ⟨w10.heap.size + 1, 2, none⟩) (HB.out.here) (by show w.heap.size ≤ w10.heap.size + 1; omega) (.int .i64 1)) (by show w.heap.size ≤ w10.heap.size + 1; omega) (.int .i64 5)) (by show w.heap.size ≤ w10.heap.size + 1; omega) (.string ⟨#[]⟩)) (by simpa using HB.out.here.size))
  have nKSA := Lib.hid (Blk.kp ((((KSA.out.here).other (p := ⟨w10.heap.size + 1, 2, none⟩) (by show ¬ (w8.heap.size) = (w10.heap.size + 1); omega) (.int .i64 1)).other (p := ⟨w10.heap.size + 1, 3, none⟩) (by show ¬ (w8.heap.size) = (w10.heap.size + 1); omega) (.int .i64 5)).other (p := ⟨w10.heap.size + 1, 4, none⟩) (by show ¬ (w8.heap.size) = (w10.heap.size + 1); omega) (.string ⟨#[]⟩)))
  have nKA := Lib.hid (Blk.kp ((((KA.out.here).other (p := ⟨w10.heap.size + 1, 2, none⟩) (by show ¬ (w8.heap.size + 1) = (w10.heap.size + 1); omega) (.int .i64 1)).other (p := ⟨w10.heap.size + 1, 3, none⟩) (by show ¬ (w8.heap.size + 1) = (w10.heap.size + 1); omega) (.int .i64 5)).other (p := ⟨w10.heap.size + 1, 4, none⟩) (by show ¬ (w8.heap.size + 1) = (w10.heap.size + 1); omega) (.string ⟨#[]⟩)))
  have nZA := Lib.hid (size_kp (w := (((w24.setCell ⟨w10.heap.size + 1, 2, none⟩ (.int .i64 1)).setCell ⟨w10.heap.size + 1, 3, none⟩ (.int .i64 5)).setCell ⟨w10.heap.size + 1, 4, none⟩ (.string ⟨#[]⟩))) (by simpa using ZA.out.here))
  have nKSB := Lib.hid (Blk.kp ((((KSB.out.here).other (p := ⟨w10.heap.size + 1, 2, none⟩) (by show ¬ (w10.heap.size) = (w10.heap.size + 1); omega) (.int .i64 1)).other (p := ⟨w10.heap.size + 1, 3, none⟩) (by show ¬ (w10.heap.size) = (w10.heap.size + 1); omega) (.int .i64 5)).other (p := ⟨w10.heap.size + 1, 4, none⟩) (by show ¬ (w10.heap.size) = (w10.heap.size + 1); omega) (.string ⟨#[]⟩)))
  have nKB := Lib.hid (Blk.kp ((((KB.out.here).set 2 (.int .i64 1)).set 3 (.int .i64 5)).set 4 (.string ⟨#[]⟩)))
  have nZB := Lib.hid (size_kp (w := (((w24.setCell ⟨w10.heap.size + 1, 2, none⟩ (.int .i64 1)).setCell ⟨w10.heap.size + 1, 3, none⟩ (.int .i64 5)).setCell ⟨w10.heap.size + 1, 4, none⟩ (.string ⟨#[]⟩))) (by simpa using ZB.out.here))
  have nKb22 := Lib.hid (Blk.kp ((((Kb22.out.here).other (p := ⟨w10.heap.size + 1, 2, none⟩) (by show ¬ (b22) = (w10.heap.size + 1); omega) (.int .i64 1)).other (p := ⟨w10.heap.size + 1, 3, none⟩) (by show ¬ (b22) = (w10.heap.size + 1); omega) (.int .i64 5)).other (p := ⟨w10.heap.size + 1, 4, none⟩) (by show ¬ (b22) = (w10.heap.size + 1); omega) (.string ⟨#[]⟩)))
  have nKU := Lib.hid (Blk.kp ((((KU.out.here).other (p := ⟨w10.heap.size + 1, 2, none⟩) (by show ¬ (w22.heap.size) = (w10.heap.size + 1); omega) (.int .i64 1)).other (p := ⟨w10.heap.size + 1, 3, none⟩) (by show ¬ (w22.heap.size) = (w10.heap.size + 1); omega) (.int .i64 5)).other (p := ⟨w10.heap.size + 1, 4, none⟩) (by show ¬ (w22.heap.size) = (w10.heap.size + 1); omega) (.string ⟨#[]⟩)))
  simp only [List.set_cons_zero, List.set_cons_succ] at nKB
  clear HB KSA KA ZA KSB KB ZB Kb22 KU
  have HB := nHB
  have KSA := nKSA
  have KA := nKA
  have ZA := nZA
  have KSB := nKSB
  have KB := nKB
  have ZB := nZB
  have Kb22 := nKb22
  have KU := nKU
  clear nHB nKSA nKA nZA nKSB nKB nZB nKb22 nKU
  go_upto_region 11 with fail
  clear q0 q1 q2 q3 q4 q5 fz0 fz1 fz2
  generalize ((w24.setCell ⟨w10.heap.size + 1, 2, none⟩ (.int .i64 1)).setCell ⟨w10.heap.size + 1, 3, none⟩ (.int .i64 5)).setCell ⟨w10.heap.size + 1, 4, none⟩ (.string ⟨#[]⟩) = w25 at *
  have fz := KB.out.here.free
  have fz0 := fz 0
  clear fz
  obtain ⟨q0, q1, q2, q3, q4, q5⟩ := KB.out.here.cells.f6
  simp only [Nat.zero_add] at q1 q2 q3 q4 q5
  have nHB := Lib.hid (Below.kp (Below.setCell (p := ⟨w10.heap.size + 1, 0, none⟩) (HB.out.here) (by show w.heap.size ≤ w10.heap.size + 1; omega) (.int .i64 12)) (by simpa using HB.out.here.size))
  have nKSA := Lib.hid (Blk.kp ((KSA.out.here).other (p := ⟨w10.heap.size + 1, 0, none⟩) (by show ¬ (w8.heap.size) = (w10.heap.size + 1); omega) (.int .i64 12)))
  have nKA := Lib.hid (Blk.kp ((KA.out.here).other (p := ⟨w10.heap.size + 1, 0, none⟩) (by show ¬ (w8.heap.size + 1) = (w10.heap.size + 1); omega) (.int .i64 12)))
  have nZA := Lib.hid (size_kp (w := (w25.setCell ⟨w10.heap.size + 1, 0, none⟩ (.int .i64 12))) (by simpa using ZA.out.here))
  have nKSB := Lib.hid (Blk.kp ((KSB.out.here).other (p := ⟨w10.heap.size + 1, 0, none⟩) (by show ¬ (w10.heap.size) = (w10.heap.size + 1); omega) (.int .i64 12)))
  have nKB := Lib.hid (Blk.kp ((KB.out.here).set 0 (.int .i64 12)))
  have nZB := Lib.hid (size_kp (w := (w25.setCell ⟨w10.heap.size + 1, 0, none⟩ (.int .i64 12))) (by simpa using ZB.out.here))
  have nKb22 := Lib.hid (Blk.kp ((Kb22.out.here).other (p := ⟨w10.heap.size + 1, 0, none⟩) (by show ¬ (b22) = (w10.heap.size + 1); omega) (.int .i64 12)))
  have nKU := Lib.hid (Blk.kp ((KU.out.here).other (p := ⟨w10.heap.size + 1, 0, none⟩) (by show ¬ (w22.heap.size) = (w10.heap.size + 1); omega) (.int .i64 12)))
  simp only [List.set_cons_zero, List.set_cons_succ] at nKB
  clear HB KSA KA ZA KSB KB ZB Kb22 KU
  have HB := nHB
  have KSA := nKSA
  have KA := nKA
  have ZA := nZA
  have KSB := nKSB
  have KB := nKB
  have ZB := nZB
  have Kb22 := nKb22
  have KU := nKU
  clear nHB nKSA nKA nZA nKSB nKB nZB nKb22 nKU
  go_upto_region 12 with fail
  clear q0 q1 q2 q3 q4 q5 fz0
  generalize w25.setCell ⟨w10.heap.size + 1, 0, none⟩ (.int .i64 12) = w26 at *
  obtain ⟨z60, z61, z62, z63, z64, z65⟩ := KU.out.here.cells.f6
  simp only [Nat.zero_add] at z61 z62 z63 z64 z65
  obtain ⟨z70, z71, z72, z73, z74, z75⟩ := KA.out.here.cells.f6
  simp only [Nat.zero_add] at z71 z72 z73 z74 z75
  obtain ⟨z80, z81, z82, z83, z84, z85⟩ := KB.out.here.cells.f6
  simp only [Nat.zero_add] at z81 z82 z83 z84 z85
  go_wp2_with fail
  have hf : Fts 0 (w26.alloc (.cells #[.int .i64 10, .int .i64 4, .int .i64 1, .int .i64 1, .string ⟨#[]⟩, .slice (some ⟨b22, 0, none⟩) 1 1, .int .i64 11, .int .i64 10, .int .i64 1, .int .i64 5, .string ⟨#[]⟩, .slice (some ⟨w8.heap.size, 0, none⟩) 1 1, .int .i64 12, .int .i64 10, .int .i64 1, .int .i64 5, .string ⟨#[]⟩, .slice (some ⟨w10.heap.size, 0, none⟩) 1 1] 49)).heap.size (w26.alloc (.cells #[.int .i64 10, .int .i64 4, .int .i64 1, .int .i64 1, .string ⟨#[]⟩, .slice (some ⟨b22, 0, none⟩) 1 1, .int .i64 11, .int .i64 10, .int .i64 1, .int .i64 5, .string ⟨#[]⟩, .slice (some ⟨w8.heap.size, 0, none⟩) 1 1, .int .i64 12, .int .i64 10, .int .i64 1, .int .i64 5, .string ⟨#[]⟩, .slice (some ⟨w10.heap.size, 0, none⟩) 1 1] 49)) (.slice (some ⟨w26.heap.size, 0, none⟩) 3 3) [⟨10, 4, ⟨1, 1, []⟩, wholeL⟩, ⟨11, 10, ⟨1, 5, []⟩, [⟨0, 9⟩]⟩, ⟨12, 10, ⟨1, 5, []⟩, [⟨9, 20⟩]⟩] := lit_fts [⟨⟨10, 4, ⟨1, 1, []⟩, wholeL⟩, some ⟨b22, 0, none⟩, 1, 1⟩, ⟨⟨11, 10, ⟨1, 5, []⟩, [⟨0, 9⟩]⟩, some ⟨w8.heap.size, 0, none⟩, 1, 1⟩, ⟨⟨12, 10, ⟨1, 5, []⟩, [⟨9, 20⟩]⟩, some ⟨w10.heap.size, 0, none⟩, 1, 1⟩] w26 (by simp) (fun p hp => by
    simp only [List.mem_cons, List.not_mem_nil, or_false] at hp
    rcases hp with rfl | rfl | rfl
    · exact spans_one Kb22.out.here
    · exact spans_one KSA.out.here
    · exact spans_one KSB.out.here)
  have hal := alloc_below w26 (.cells #[.int .i64 10, .int .i64 4, .int .i64 1, .int .i64 1, .string ⟨#[]⟩, .slice (some ⟨b22, 0, none⟩) 1 1, .int .i64 11, .int .i64 10, .int .i64 1, .int .i64 5, .string ⟨#[]⟩, .slice (some ⟨w8.heap.size, 0, none⟩) 1 1, .int .i64 12, .int .i64 10, .int .i64 1, .int .i64 5, .string ⟨#[]⟩, .slice (some ⟨w10.heap.size, 0, none⟩) 1 1] 49)
  replace HB := Lib.hid (HB.out.step hal)
  replace KSA := Lib.hid (KSA.out.step hal)
  replace KA := Lib.hid (KA.out.step hal)
  replace ZA := Lib.hid (ZA.out.step hal)
  replace KSB := Lib.hid (KSB.out.step hal)
  replace KB := Lib.hid (KB.out.step hal)
  replace ZB := Lib.hid (ZB.out.step hal)
  replace Kb22 := Lib.hid (Kb22.out.step hal)
  replace KU := Lib.hid (KU.out.step hal)
  clear hal
  refine few_any 0 _ [⟨10, 4, ⟨1, 1, []⟩, wholeL⟩, ⟨11, 10, ⟨1, 5, []⟩, [⟨0, 9⟩]⟩, ⟨12, 10, ⟨1, 5, []⟩, [⟨9, 20⟩]⟩] _ _ hf (Nat.le_refl _) (by simp) _ (fun w27 v hB hv => ?_)
  replace HB := Lib.hid (HB.out.step hB)
  replace KSA := Lib.hid (KSA.out.step hB)
  replace KA := Lib.hid (KA.out.step hB)
  replace ZA := Lib.hid (ZA.out.step hB)
  replace KSB := Lib.hid (KSB.out.step hB)
  replace KB := Lib.hid (KB.out.step hB)
  replace ZB := Lib.hid (ZB.out.step hB)
  replace Kb22 := Lib.hid (Kb22.out.step hB)
  replace KU := Lib.hid (KU.out.step hB)
  have Hv := Lib.hid hv
  obtain ⟨a, c, rfl, -, -, -, -⟩ := hv.form
  clear hB hv hf
  go_wp2_with fail
  refine Holds_any 0 _ (fewL ++ [⟨10, 4, ⟨1, 1, []⟩, wholeL⟩, ⟨11, 10, ⟨1, 5, []⟩, [⟨0, 9⟩]⟩, ⟨12, 10, ⟨1, 5, []⟩, [⟨9, 20⟩]⟩]) _ _ Hv.out (Nat.le_refl _) (by decide) (by decide) (by decide) _ (fun w28 hB => ?_)
  replace HB := Lib.hid (HB.out.step hB)
  replace KSA := Lib.hid (KSA.out.step hB)
  replace KA := Lib.hid (KA.out.step hB)
  replace ZA := Lib.hid (ZA.out.step hB)
  replace KSB := Lib.hid (KSB.out.step hB)
  replace KB := Lib.hid (KB.out.step hB)
  replace ZB := Lib.hid (ZB.out.step hB)
  replace Kb22 := Lib.hid (Kb22.out.step hB)
  replace KU := Lib.hid (KU.out.step hB)
  rw [show holdsC (fewL ++ [⟨10, 4, ⟨1, 1, []⟩, wholeL⟩, ⟨11, 10, ⟨1, 5, []⟩, [⟨0, 9⟩]⟩, ⟨12, 10, ⟨1, 5, []⟩, [⟨9, 20⟩]⟩]) = 0 from nm6]
  clear hB Hv
  go_upto_region 13 with fail
  obtain ⟨z90, z91, z92, z93, z94, z95⟩ := KB.out.here.cells.f6
  simp only [Nat.zero_add] at z91 z92 z93 z94 z95
  have fz := KSB.out.here.free
  have fz0 := fz 0
  clear fz
  obtain ⟨q0, q1⟩ := KSB.out.here.cells.c2
  simp only [Nat.zero_add] at q1
  have nHB := Lib.hid (Below.kp (Below.setCell (p := ⟨w10.heap.size, 0, none⟩) (HB.out.here) (by show w.heap.size ≤ w10.heap.size; omega) (.int .i64 8)) (by simpa using HB.out.here.size))
  have nKSA := Lib.hid (Blk.kp ((KSA.out.here).other (p := ⟨w10.heap.size, 0, none⟩) (by show ¬ (w8.heap.size) = (w10.heap.size); omega) (.int .i64 8)))
  have nKA := Lib.hid (Blk.kp ((KA.out.here).other (p := ⟨w10.heap.size, 0, none⟩) (by show ¬ (w8.heap.size + 1) = (w10.heap.size); omega) (.int .i64 8)))
  have nZA := Lib.hid (size_kp (w := (w28.setCell ⟨w10.heap.size, 0, none⟩ (.int .i64 8))) (by simpa using ZA.out.here))
  have nKSB := Lib.hid (Blk.kp ((KSB.out.here).set 0 (.int .i64 8)))
  have nKB := Lib.hid (Blk.kp ((KB.out.here).other (p := ⟨w10.heap.size, 0, none⟩) (by show ¬ (w10.heap.size + 1) = (w10.heap.size); omega) (.int .i64 8)))
  have nZB := Lib.hid (size_kp (w := (w28.setCell ⟨w10.heap.size, 0, none⟩ (.int .i64 8))) (by simpa using ZB.out.here))
  have nKb22 := Lib.hid (Blk.kp ((Kb22.out.here).other (p := ⟨w10.heap.size, 0, none⟩) (by show ¬ (b22) = (w10.heap.size); omega) (.int .i64 8)))
  have nKU := Lib.hid (Blk.kp ((KU.out.here).other (p := ⟨w10.heap.size, 0, none⟩) (by show ¬ (w22.heap.size) = (w10.heap.size); omega) (.int .i64 8)))
  simp only [List.set_cons_zero, List.set_cons_succ] at nKSB
  clear HB KSA KA ZA KSB KB ZB Kb22 KU
  have HB := nHB
  have KSA := nKSA
  have KA := nKA
  have ZA := nZA
  have KSB := nKSB
  have KB := nKB
  have ZB := nZB
  have Kb22 := nKb22
  have KU := nKU
  clear nHB nKSA nKA nZA nKSB nKB nZB nKb22 nKU
  go_upto_region 14 with fail
  clear q0 q1 fz0
  generalize w28.setCell ⟨w10.heap.size, 0, none⟩ (.int .i64 8) = w29 at *
  obtain ⟨z100, z101, z102, z103, z104, z105⟩ := KU.out.here.cells.f6
  simp only [Nat.zero_add] at z101 z102 z103 z104 z105
  obtain ⟨z110, z111, z112, z113, z114, z115⟩ := KA.out.here.cells.f6
  simp only [Nat.zero_add] at z111 z112 z113 z114 z115
  obtain ⟨z120, z121, z122, z123, z124, z125⟩ := KB.out.here.cells.f6
  simp only [Nat.zero_add] at z121 z122 z123 z124 z125
  go_wp2_with fail
  have hf : Fts 0 (w29.alloc (.cells #[.int .i64 10, .int .i64 4, .int .i64 1, .int .i64 1, .string ⟨#[]⟩, .slice (some ⟨b22, 0, none⟩) 1 1, .int .i64 11, .int .i64 10, .int .i64 1, .int .i64 5, .string ⟨#[]⟩, .slice (some ⟨w8.heap.size, 0, none⟩) 1 1, .int .i64 12, .int .i64 10, .int .i64 1, .int .i64 5, .string ⟨#[]⟩, .slice (some ⟨w10.heap.size, 0, none⟩) 1 1] 49)).heap.size (w29.alloc (.cells #[.int .i64 10, .int .i64 4, .int .i64 1, .int .i64 1, .string ⟨#[]⟩, .slice (some ⟨b22, 0, none⟩) 1 1, .int .i64 11, .int .i64 10, .int .i64 1, .int .i64 5, .string ⟨#[]⟩, .slice (some ⟨w8.heap.size, 0, none⟩) 1 1, .int .i64 12, .int .i64 10, .int .i64 1, .int .i64 5, .string ⟨#[]⟩, .slice (some ⟨w10.heap.size, 0, none⟩) 1 1] 49)) (.slice (some ⟨w29.heap.size, 0, none⟩) 3 3) [⟨10, 4, ⟨1, 1, []⟩, wholeL⟩, ⟨11, 10, ⟨1, 5, []⟩, [⟨0, 9⟩]⟩, ⟨12, 10, ⟨1, 5, []⟩, [⟨8, 20⟩]⟩] := lit_fts [⟨⟨10, 4, ⟨1, 1, []⟩, wholeL⟩, some ⟨b22, 0, none⟩, 1, 1⟩, ⟨⟨11, 10, ⟨1, 5, []⟩, [⟨0, 9⟩]⟩, some ⟨w8.heap.size, 0, none⟩, 1, 1⟩, ⟨⟨12, 10, ⟨1, 5, []⟩, [⟨8, 20⟩]⟩, some ⟨w10.heap.size, 0, none⟩, 1, 1⟩] w29 (by simp) (fun p hp => by
    simp only [List.mem_cons, List.not_mem_nil, or_false] at hp
    rcases hp with rfl | rfl | rfl
    · exact spans_one Kb22.out.here
    · exact spans_one KSA.out.here
    · exact spans_one KSB.out.here)
  have hal := alloc_below w29 (.cells #[.int .i64 10, .int .i64 4, .int .i64 1, .int .i64 1, .string ⟨#[]⟩, .slice (some ⟨b22, 0, none⟩) 1 1, .int .i64 11, .int .i64 10, .int .i64 1, .int .i64 5, .string ⟨#[]⟩, .slice (some ⟨w8.heap.size, 0, none⟩) 1 1, .int .i64 12, .int .i64 10, .int .i64 1, .int .i64 5, .string ⟨#[]⟩, .slice (some ⟨w10.heap.size, 0, none⟩) 1 1] 49)
  replace HB := Lib.hid (HB.out.step hal)
  replace KSA := Lib.hid (KSA.out.step hal)
  replace KA := Lib.hid (KA.out.step hal)
  replace ZA := Lib.hid (ZA.out.step hal)
  replace KSB := Lib.hid (KSB.out.step hal)
  replace KB := Lib.hid (KB.out.step hal)
  replace ZB := Lib.hid (ZB.out.step hal)
  replace Kb22 := Lib.hid (Kb22.out.step hal)
  replace KU := Lib.hid (KU.out.step hal)
  clear hal
  refine few_any 0 _ [⟨10, 4, ⟨1, 1, []⟩, wholeL⟩, ⟨11, 10, ⟨1, 5, []⟩, [⟨0, 9⟩]⟩, ⟨12, 10, ⟨1, 5, []⟩, [⟨8, 20⟩]⟩] _ _ hf (Nat.le_refl _) (by simp) _ (fun w30 v hB hv => ?_)
  replace HB := Lib.hid (HB.out.step hB)
  replace KSA := Lib.hid (KSA.out.step hB)
  replace KA := Lib.hid (KA.out.step hB)
  replace ZA := Lib.hid (ZA.out.step hB)
  replace KSB := Lib.hid (KSB.out.step hB)
  replace KB := Lib.hid (KB.out.step hB)
  replace ZB := Lib.hid (ZB.out.step hB)
  replace Kb22 := Lib.hid (Kb22.out.step hB)
  replace KU := Lib.hid (KU.out.step hB)
  have Hv := Lib.hid hv
  obtain ⟨a, c, rfl, -, -, -, -⟩ := hv.form
  clear hB hv hf
  go_wp2_with fail
  refine Holds_any 0 _ (fewL ++ [⟨10, 4, ⟨1, 1, []⟩, wholeL⟩, ⟨11, 10, ⟨1, 5, []⟩, [⟨0, 9⟩]⟩, ⟨12, 10, ⟨1, 5, []⟩, [⟨8, 20⟩]⟩]) _ _ Hv.out (Nat.le_refl _) (by decide) (by decide) (by decide) _ (fun w31 hB => ?_)
  replace HB := Lib.hid (HB.out.step hB)
  replace KSA := Lib.hid (KSA.out.step hB)
  replace KA := Lib.hid (KA.out.step hB)
  replace ZA := Lib.hid (ZA.out.step hB)
  replace KSB := Lib.hid (KSB.out.step hB)
  replace KB := Lib.hid (KB.out.step hB)
  replace ZB := Lib.hid (ZB.out.step hB)
  replace Kb22 := Lib.hid (Kb22.out.step hB)
  replace KU := Lib.hid (KU.out.step hB)
  rw [show holdsC (fewL ++ [⟨10, 4, ⟨1, 1, []⟩, wholeL⟩, ⟨11, 10, ⟨1, 5, []⟩, [⟨0, 9⟩]⟩, ⟨12, 10, ⟨1, 5, []⟩, [⟨8, 20⟩]⟩]) = 74 from nm7]
  clear hB Hv
  go_wp2_with fail
  have hB1 := alloc_below w31 (.cells #[.int .i64 0, .int .i64 9] 58)
  have hk1 := Blk.new w31 [.int .i64 0, .int .i64 9] 58 rfl
  replace HB := Lib.hid (HB.out.step hB1)
  replace KSA := Lib.hid (KSA.out.step hB1)
  replace KA := Lib.hid (KA.out.step hB1)
  replace ZA := Lib.hid (ZA.out.step hB1)
  replace KSB := Lib.hid (KSB.out.step hB1)
  replace KB := Lib.hid (KB.out.step hB1)
  replace ZB := Lib.hid (ZB.out.step hB1)
  replace Kb22 := Lib.hid (Kb22.out.step hB1)
  replace KU := Lib.hid (KU.out.step hB1)
  clear hB1
  have KS8 := Lib.hid (Blk.kp hk1)
  clear hk1
  have hsz : (w31.alloc (.cells #[.int .i64 0, .int .i64 9] 58)).heap.size = w31.heap.size + 1 := by simp
  generalize w31.alloc (.cells #[.int .i64 0, .int .i64 9] 58) = w32 at *
  have hf : Fts 0 (w32.alloc (.cells #[.int .i64 10, .int .i64 7, .int .i64 3, .int .i64 0, .string ⟨#[]⟩, .slice (some ⟨w31.heap.size, 0, none⟩) 1 1] 49)).heap.size (w32.alloc (.cells #[.int .i64 10, .int .i64 7, .int .i64 3, .int .i64 0, .string ⟨#[]⟩, .slice (some ⟨w31.heap.size, 0, none⟩) 1 1] 49)) (.slice (some ⟨w32.heap.size, 0, none⟩) 1 1) [⟨10, 7, ⟨3, 0, []⟩, [⟨0, 9⟩]⟩] := lit_fts [⟨⟨10, 7, ⟨3, 0, []⟩, [⟨0, 9⟩]⟩, some ⟨w31.heap.size, 0, none⟩, 1, 1⟩] w32 (by simp) (fun p hp => by
    simp only [List.mem_cons, List.not_mem_nil, or_false] at hp
    rcases hp with rfl
    · exact spans_one KS8.out.here)
  rw [hsz] at hf
  clear hsz
  have hal := alloc_below w32 (.cells #[.int .i64 10, .int .i64 7, .int .i64 3, .int .i64 0, .string ⟨#[]⟩, .slice (some ⟨w31.heap.size, 0, none⟩) 1 1] 49)
  replace HB := Lib.hid (HB.out.step hal)
  replace KSA := Lib.hid (KSA.out.step hal)
  replace KA := Lib.hid (KA.out.step hal)
  replace ZA := Lib.hid (ZA.out.step hal)
  replace KSB := Lib.hid (KSB.out.step hal)
  replace KB := Lib.hid (KB.out.step hal)
  replace ZB := Lib.hid (ZB.out.step hal)
  replace Kb22 := Lib.hid (Kb22.out.step hal)
  replace KU := Lib.hid (KU.out.step hal)
  replace KS8 := Lib.hid (KS8.out.step hal)
  clear hal
  refine few_any 0 _ [⟨10, 7, ⟨3, 0, []⟩, [⟨0, 9⟩]⟩] _ _ hf (Nat.le_refl _) (by simp) _ (fun w33 v hB hv => ?_)
  replace HB := Lib.hid (HB.out.step hB)
  replace KSA := Lib.hid (KSA.out.step hB)
  replace KA := Lib.hid (KA.out.step hB)
  replace ZA := Lib.hid (ZA.out.step hB)
  replace KSB := Lib.hid (KSB.out.step hB)
  replace KB := Lib.hid (KB.out.step hB)
  replace ZB := Lib.hid (ZB.out.step hB)
  replace Kb22 := Lib.hid (Kb22.out.step hB)
  replace KU := Lib.hid (KU.out.step hB)
  replace KS8 := Lib.hid (KS8.out.step hB)
  have Hv := Lib.hid hv
  obtain ⟨a, c, rfl, -, -, -, -⟩ := hv.form
  clear hB hv hf
  go_wp2_with fail
  refine Holds_any 0 _ (fewL ++ [⟨10, 7, ⟨3, 0, []⟩, [⟨0, 9⟩]⟩]) _ _ Hv.out (Nat.le_refl _) (by decide) (by decide) (by decide) _ (fun w34 hB => ?_)
  replace HB := Lib.hid (HB.out.step hB)
  replace KSA := Lib.hid (KSA.out.step hB)
  replace KA := Lib.hid (KA.out.step hB)
  replace ZA := Lib.hid (ZA.out.step hB)
  replace KSB := Lib.hid (KSB.out.step hB)
  replace KB := Lib.hid (KB.out.step hB)
  replace ZB := Lib.hid (ZB.out.step hB)
  replace Kb22 := Lib.hid (Kb22.out.step hB)
  replace KU := Lib.hid (KU.out.step hB)
  replace KS8 := Lib.hid (KS8.out.step hB)
  rw [show holdsC (fewL ++ [⟨10, 7, ⟨3, 0, []⟩, [⟨0, 9⟩]⟩]) = 75 from nm8]
  clear hB Hv
  go_wp2_with fail
  clear KS8
  refine fact_any 10 5 ⟨2, 1, []⟩ w34 _ (fun w35 b35 hB hbb35 hk => ?_)
  have hlb35 := hk.lt
  replace HB := Lib.hid (HB.out.step hB)
  replace KSA := Lib.hid (KSA.out.step hB)
  replace KA := Lib.hid (KA.out.step hB)
  replace ZA := Lib.hid (ZA.out.step hB)
  replace KSB := Lib.hid (KSB.out.step hB)
  replace KB := Lib.hid (KB.out.step hB)
  replace ZB := Lib.hid (ZB.out.step hB)
  replace Kb22 := Lib.hid (Kb22.out.step hB)
  replace KU := Lib.hid (KU.out.step hB)
  have Kb35 := Lib.hid (Blk.kp hk)
  clear hB hk
  go_wp2_with fail
  have hf : Fts 0 (w35.alloc (.cells #[.int .i64 10, .int .i64 5, .int .i64 2, .int .i64 1, .string ⟨#[]⟩, .slice (some ⟨b35, 0, none⟩) 1 1] 49)).heap.size (w35.alloc (.cells #[.int .i64 10, .int .i64 5, .int .i64 2, .int .i64 1, .string ⟨#[]⟩, .slice (some ⟨b35, 0, none⟩) 1 1] 49)) (.slice (some ⟨w35.heap.size, 0, none⟩) 1 1) [⟨10, 5, ⟨2, 1, []⟩, wholeL⟩] := lit_fts [⟨⟨10, 5, ⟨2, 1, []⟩, wholeL⟩, some ⟨b35, 0, none⟩, 1, 1⟩] w35 (by simp) (fun p hp => by
    simp only [List.mem_cons, List.not_mem_nil, or_false] at hp
    rcases hp with rfl
    · exact spans_one Kb35.out.here)
  have hal := alloc_below w35 (.cells #[.int .i64 10, .int .i64 5, .int .i64 2, .int .i64 1, .string ⟨#[]⟩, .slice (some ⟨b35, 0, none⟩) 1 1] 49)
  replace HB := Lib.hid (HB.out.step hal)
  replace KSA := Lib.hid (KSA.out.step hal)
  replace KA := Lib.hid (KA.out.step hal)
  replace ZA := Lib.hid (ZA.out.step hal)
  replace KSB := Lib.hid (KSB.out.step hal)
  replace KB := Lib.hid (KB.out.step hal)
  replace ZB := Lib.hid (ZB.out.step hal)
  replace Kb22 := Lib.hid (Kb22.out.step hal)
  replace KU := Lib.hid (KU.out.step hal)
  replace Kb35 := Lib.hid (Kb35.out.step hal)
  clear hal
  refine few_any 0 _ [⟨10, 5, ⟨2, 1, []⟩, wholeL⟩] _ _ hf (Nat.le_refl _) (by simp) _ (fun w36 v hB hv => ?_)
  replace HB := Lib.hid (HB.out.step hB)
  replace KSA := Lib.hid (KSA.out.step hB)
  replace KA := Lib.hid (KA.out.step hB)
  replace ZA := Lib.hid (ZA.out.step hB)
  replace KSB := Lib.hid (KSB.out.step hB)
  replace KB := Lib.hid (KB.out.step hB)
  replace ZB := Lib.hid (ZB.out.step hB)
  replace Kb22 := Lib.hid (Kb22.out.step hB)
  replace KU := Lib.hid (KU.out.step hB)
  replace Kb35 := Lib.hid (Kb35.out.step hB)
  have Hv := Lib.hid hv
  obtain ⟨a, c, rfl, -, -, -, -⟩ := hv.form
  clear hB hv hf
  go_wp2_with fail
  refine Holds_any 0 _ (fewL ++ [⟨10, 5, ⟨2, 1, []⟩, wholeL⟩]) _ _ Hv.out (Nat.le_refl _) (by decide) (by decide) (by decide) _ (fun w37 hB => ?_)
  replace HB := Lib.hid (HB.out.step hB)
  replace KSA := Lib.hid (KSA.out.step hB)
  replace KA := Lib.hid (KA.out.step hB)
  replace ZA := Lib.hid (ZA.out.step hB)
  replace KSB := Lib.hid (KSB.out.step hB)
  replace KB := Lib.hid (KB.out.step hB)
  replace ZB := Lib.hid (ZB.out.step hB)
  replace Kb22 := Lib.hid (Kb22.out.step hB)
  replace KU := Lib.hid (KU.out.step hB)
  replace Kb35 := Lib.hid (Kb35.out.step hB)
  rw [show holdsC (fewL ++ [⟨10, 5, ⟨2, 1, []⟩, wholeL⟩]) = 76 from nm9]
  clear hB Hv
  go_wp2_with fail
  clear Kb35
  refine fact_any 11 1 ⟨7, 0, [117, 115, 101, 114, 47, 97, 103, 101]⟩ w37 _ (fun w38 b38 hB hbb38 hk => ?_)
  have hlb38 := hk.lt
  replace HB := Lib.hid (HB.out.step hB)
  replace KSA := Lib.hid (KSA.out.step hB)
  replace KA := Lib.hid (KA.out.step hB)
  replace ZA := Lib.hid (ZA.out.step hB)
  replace KSB := Lib.hid (KSB.out.step hB)
  replace KB := Lib.hid (KB.out.step hB)
  replace ZB := Lib.hid (ZB.out.step hB)
  replace Kb22 := Lib.hid (Kb22.out.step hB)
  replace KU := Lib.hid (KU.out.step hB)
  have Kb38 := Lib.hid (Blk.kp hk)
  clear hB hk
  go_wp2_with fail
  refine number_any 2 w38 _ (fun w39 hB => ?_)
  replace HB := Lib.hid (HB.out.step hB)
  replace KSA := Lib.hid (KSA.out.step hB)
  replace KA := Lib.hid (KA.out.step hB)
  replace ZA := Lib.hid (ZA.out.step hB)
  replace KSB := Lib.hid (KSB.out.step hB)
  replace KB := Lib.hid (KB.out.step hB)
  replace ZB := Lib.hid (ZB.out.step hB)
  replace Kb22 := Lib.hid (Kb22.out.step hB)
  replace KU := Lib.hid (KU.out.step hB)
  replace Kb38 := Lib.hid (Kb38.out.step hB)
  clear hB
  go_wp2_with fail
  refine fact_any 11 2 ⟨1, 2, []⟩ w39 _ (fun w40 b40 hB hbb40 hk => ?_)
  have hlb40 := hk.lt
  replace HB := Lib.hid (HB.out.step hB)
  replace KSA := Lib.hid (KSA.out.step hB)
  replace KA := Lib.hid (KA.out.step hB)
  replace ZA := Lib.hid (ZA.out.step hB)
  replace KSB := Lib.hid (KSB.out.step hB)
  replace KB := Lib.hid (KB.out.step hB)
  replace ZB := Lib.hid (ZB.out.step hB)
  replace Kb22 := Lib.hid (Kb22.out.step hB)
  replace KU := Lib.hid (KU.out.step hB)
  replace Kb38 := Lib.hid (Kb38.out.step hB)
  have Kb40 := Lib.hid (Blk.kp hk)
  clear hB hk
  go_wp2_with fail
  have hf : Fts 0 (w40.alloc (.cells #[.int .i64 11, .int .i64 1, .int .i64 7, .int .i64 0, .string ⟨#[117, 115, 101, 114, 47, 97, 103, 101]⟩, .slice (some ⟨b38, 0, none⟩) 1 1, .int .i64 11, .int .i64 2, .int .i64 1, .int .i64 2, .string ⟨#[]⟩, .slice (some ⟨b40, 0, none⟩) 1 1] 49)).heap.size (w40.alloc (.cells #[.int .i64 11, .int .i64 1, .int .i64 7, .int .i64 0, .string ⟨#[117, 115, 101, 114, 47, 97, 103, 101]⟩, .slice (some ⟨b38, 0, none⟩) 1 1, .int .i64 11, .int .i64 2, .int .i64 1, .int .i64 2, .string ⟨#[]⟩, .slice (some ⟨b40, 0, none⟩) 1 1] 49)) (.slice (some ⟨w40.heap.size, 0, none⟩) 2 2) [⟨11, 1, ⟨7, 0, [117, 115, 101, 114, 47, 97, 103, 101]⟩, wholeL⟩, ⟨11, 2, ⟨1, 2, []⟩, wholeL⟩] := lit_fts [⟨⟨11, 1, ⟨7, 0, [117, 115, 101, 114, 47, 97, 103, 101]⟩, wholeL⟩, some ⟨b38, 0, none⟩, 1, 1⟩, ⟨⟨11, 2, ⟨1, 2, []⟩, wholeL⟩, some ⟨b40, 0, none⟩, 1, 1⟩] w40 (by simp) (fun p hp => by
    simp only [List.mem_cons, List.not_mem_nil, or_false] at hp
    rcases hp with rfl | rfl
    · exact spans_one Kb38.out.here
    · exact spans_one Kb40.out.here)
  have hal := alloc_below w40 (.cells #[.int .i64 11, .int .i64 1, .int .i64 7, .int .i64 0, .string ⟨#[117, 115, 101, 114, 47, 97, 103, 101]⟩, .slice (some ⟨b38, 0, none⟩) 1 1, .int .i64 11, .int .i64 2, .int .i64 1, .int .i64 2, .string ⟨#[]⟩, .slice (some ⟨b40, 0, none⟩) 1 1] 49)
  replace HB := Lib.hid (HB.out.step hal)
  replace KSA := Lib.hid (KSA.out.step hal)
  replace KA := Lib.hid (KA.out.step hal)
  replace ZA := Lib.hid (ZA.out.step hal)
  replace KSB := Lib.hid (KSB.out.step hal)
  replace KB := Lib.hid (KB.out.step hal)
  replace ZB := Lib.hid (ZB.out.step hal)
  replace Kb22 := Lib.hid (Kb22.out.step hal)
  replace KU := Lib.hid (KU.out.step hal)
  replace Kb38 := Lib.hid (Kb38.out.step hal)
  replace Kb40 := Lib.hid (Kb40.out.step hal)
  clear hal
  refine few_any 0 _ [⟨11, 1, ⟨7, 0, [117, 115, 101, 114, 47, 97, 103, 101]⟩, wholeL⟩, ⟨11, 2, ⟨1, 2, []⟩, wholeL⟩] _ _ hf (Nat.le_refl _) (by simp) _ (fun w41 v hB hv => ?_)
  replace HB := Lib.hid (HB.out.step hB)
  replace KSA := Lib.hid (KSA.out.step hB)
  replace KA := Lib.hid (KA.out.step hB)
  replace ZA := Lib.hid (ZA.out.step hB)
  replace KSB := Lib.hid (KSB.out.step hB)
  replace KB := Lib.hid (KB.out.step hB)
  replace ZB := Lib.hid (ZB.out.step hB)
  replace Kb22 := Lib.hid (Kb22.out.step hB)
  replace KU := Lib.hid (KU.out.step hB)
  replace Kb38 := Lib.hid (Kb38.out.step hB)
  replace Kb40 := Lib.hid (Kb40.out.step hB)
  have Hv := Lib.hid hv
  obtain ⟨a, c, rfl, -, -, -, -⟩ := hv.form
  clear hB hv hf
  go_wp2_with fail
  refine Holds_any 0 _ (fewL ++ [⟨11, 1, ⟨7, 0, [117, 115, 101, 114, 47, 97, 103, 101]⟩, wholeL⟩, ⟨11, 2, ⟨1, 2, []⟩, wholeL⟩]) _ _ Hv.out (Nat.le_refl _) (by decide) (by decide) (by decide) _ (fun w42 hB => ?_)
  replace HB := Lib.hid (HB.out.step hB)
  replace KSA := Lib.hid (KSA.out.step hB)
  replace KA := Lib.hid (KA.out.step hB)
  replace ZA := Lib.hid (ZA.out.step hB)
  replace KSB := Lib.hid (KSB.out.step hB)
  replace KB := Lib.hid (KB.out.step hB)
  replace ZB := Lib.hid (ZB.out.step hB)
  replace Kb22 := Lib.hid (Kb22.out.step hB)
  replace KU := Lib.hid (KU.out.step hB)
  replace Kb38 := Lib.hid (Kb38.out.step hB)
  replace Kb40 := Lib.hid (Kb40.out.step hB)
  rw [show holdsC (fewL ++ [⟨11, 1, ⟨7, 0, [117, 115, 101, 114, 47, 97, 103, 101]⟩, wholeL⟩, ⟨11, 2, ⟨1, 2, []⟩, wholeL⟩]) = 70 from nm10]
  clear hB Hv
  go_wp2_with fail
  clear Kb38 Kb40
  have hf : Fts 0 (w42.alloc (.cells #[.int .i64 0, .int .i64 0, .int .i64 0, .int .i64 0, .string ⟨#[]⟩, .slice none 0 0] 49)).heap.size (w42.alloc (.cells #[.int .i64 0, .int .i64 0, .int .i64 0, .int .i64 0, .string ⟨#[]⟩, .slice none 0 0] 49)) (.slice (some ⟨w42.heap.size, 0, none⟩) 1 1) [⟨0, 0, ⟨0, 0, []⟩, []⟩] := lit_fts [⟨⟨0, 0, ⟨0, 0, []⟩, []⟩, none, 0, 0⟩] w42 (by simp) (fun p hp => by
    simp only [List.mem_cons, List.not_mem_nil, or_false] at hp
    subst hp
    exact Sl.nil _ _ _ _ _)
  have hal := alloc_below w42 (.cells #[.int .i64 0, .int .i64 0, .int .i64 0, .int .i64 0, .string ⟨#[]⟩, .slice none 0 0] 49)
  replace HB := Lib.hid (HB.out.step hal)
  replace KSA := Lib.hid (KSA.out.step hal)
  replace KA := Lib.hid (KA.out.step hal)
  replace ZA := Lib.hid (ZA.out.step hal)
  replace KSB := Lib.hid (KSB.out.step hal)
  replace KB := Lib.hid (KB.out.step hal)
  replace ZB := Lib.hid (ZB.out.step hal)
  replace Kb22 := Lib.hid (Kb22.out.step hal)
  replace KU := Lib.hid (KU.out.step hal)
  clear hal
  refine Holds_any 0 _ [⟨0, 0, ⟨0, 0, []⟩, []⟩] _ _ hf (Nat.le_refl _) (by decide) (by decide) (by decide) _ (fun w43 hB => ?_)
  replace HB := Lib.hid (HB.out.step hB)
  replace KSA := Lib.hid (KSA.out.step hB)
  replace KA := Lib.hid (KA.out.step hB)
  replace ZA := Lib.hid (ZA.out.step hB)
  replace KSB := Lib.hid (KSB.out.step hB)
  replace KB := Lib.hid (KB.out.step hB)
  replace ZB := Lib.hid (ZB.out.step hB)
  replace Kb22 := Lib.hid (Kb22.out.step hB)
  replace KU := Lib.hid (KU.out.step hB)
  rw [show holdsC [⟨0, 0, ⟨0, 0, []⟩, []⟩] = 60 from nm11]
  clear hB hf
  go_wp2_with fail
  clear KSA KA ZA KSB KB ZB Kb22 KU
  refine few_any 0 w43.heap.size [] _ w43 (Sl.nil _ _ _ _ _) (Nat.le_refl _) (by simp) _ (fun w44 v hB hv => ?_)
  replace HB := Lib.hid (HB.out.step hB)
  rw [List.append_nil] at hv
  have Hv := Lib.hid hv
  obtain ⟨a, c, rfl, -, -, -, -⟩ := hv.form
  clear hB hv
  go_wp2_with fail
  refine Of_any 0 _ fewL _ _ Hv.out (Nat.le_refl _) (by decide) (by decide) _ (fun w45 v hB ho => ?_)
  replace HB := Lib.hid (HB.out.step hB)
  rw [few_attrs] at ho
  rw [few_err]
  clear Hv hB
  have HO := Lib.hid (Attrs.kp ho)
  obtain ⟨a, c, rfl⟩ : ∃ a c, v = .slice a 8 c := by
    obtain ⟨a, c, e⟩ := Own.slice ho
    exact ⟨a, c, e⟩
  clear ho
  go_wp2_with fail
  refine ByName_any 0 _ _ (builtinL ++ [ageA]) [117, 115, 101, 114, 47, 110, 97, 109, 101] _ (Own.kz HO.out.here) (Nat.le_refl _) _ (fun w46 hB => ?_)
  replace HB := Lib.hid (HB.out.step hB)
  replace HO := Lib.hid (HO.out.step hB)
  clear hB
  rw [show (builtinL ++ [ageA]).findIdx? (byName [117, 115, 101, 114, 47, 110, 97, 109, 101]) = none from nmN, show findA (builtinL ++ [ageA]) (none) = zeroA from nmZ]
  simp only [zeroA, ageA, Option.isSome]
  go_upto_region 22 with fail
  have hB := alloc_below w46 (.cells #[.int .i64 0, .string ⟨#[]⟩, .int .i64 0, .bool false, .int .i64 0, .bool false, .bool false] 24)
  have hk := Blk.new w46 [.int .i64 0, .string ⟨#[]⟩, .int .i64 0, .bool false, .int .i64 0, .bool false, .bool false] 24 rfl
  replace HB := Lib.hid (HB.out.step hB)
  replace HO := Lib.hid (HO.out.step hB)
  clear hB
  clear hk
  generalize w46.alloc (.cells #[.int .i64 0, .string ⟨#[]⟩, .int .i64 0, .bool false, .int .i64 0, .bool false, .bool false] 24) = w47 at *
  go_wp2_with fail
  refine ByName_any 0 _ _ (builtinL ++ [ageA]) [117, 115, 101, 114, 47, 97, 103, 101] _ (Own.kz HO.out.here) (Nat.le_refl _) _ (fun w48 hB => ?_)
  replace HB := Lib.hid (HB.out.step hB)
  replace HO := Lib.hid (HO.out.step hB)
  clear hB
  rw [show (builtinL ++ [ageA]).findIdx? (byName [117, 115, 101, 114, 47, 97, 103, 101]) = some 7 from nmY, show findA (builtinL ++ [ageA]) (some 7) = ageA from nmX]
  simp only [zeroA, ageA, Option.isSome]
  go_upto_region 23 with fail
  have hB := alloc_below w48 (.cells #[.int .i64 10, .string ⟨#[117, 115, 101, 114, 47, 97, 103, 101]⟩, .int .i64 1, .bool false, .int .i64 0, .bool false, .bool false] 24)
  have hk := Blk.new w48 [.int .i64 10, .string ⟨#[117, 115, 101, 114, 47, 97, 103, 101]⟩, .int .i64 1, .bool false, .int .i64 0, .bool false, .bool false] 24 rfl
  replace HB := Lib.hid (HB.out.step hB)
  replace HO := Lib.hid (HO.out.step hB)
  clear hB
  have KX := Lib.hid (Blk.kp hk)
  clear hk
  generalize w48.alloc (.cells #[.int .i64 10, .string ⟨#[117, 115, 101, 114, 47, 97, 103, 101]⟩, .int .i64 1, .bool false, .int .i64 0, .bool false, .bool false] 24) = w49 at *
  go_wp2_with fail
  refine alive_any _ _ (fun w50 hB => ?_)
  replace HB := Lib.hid (HB.out.step hB)
  replace HO := Lib.hid (HO.out.step hB)
  replace KX := Lib.hid (KX.out.step hB)
  clear hB
  obtain ⟨q0, q1, q2, q3, q4, q5, q6⟩ := KX.out.here.cells.c7
  simp only [Nat.zero_add] at q1 q2 q3 q4 q5 q6
  go_wp2_with fail
  refine Builtin_any _ _ (fun w51 v hB ho => ?_)
  replace HB := Lib.hid (HB.out.step hB)
  replace HO := Lib.hid (HO.out.step hB)
  replace KX := Lib.hid (KX.out.step hB)
  clear hB
  have ho1 := Own.kz ho
  obtain ⟨a', c', rfl⟩ : ∃ a c, v = .slice a 7 c := by
    obtain ⟨a, c, e⟩ := Own.slice ho
    exact ⟨a, c, e⟩
  clear ho
  go_wp2_with fail
  refine Alter_any 0 _ _ _ (builtinL ++ [ageA]) builtinL _ (Own.kz HO.out.here) ho1 (Nat.le_refl _) _ (fun w52 hB => ?_)
  replace HB := Lib.hid (HB.out.step hB)
  replace HO := Lib.hid (HO.out.step hB)
  replace KX := Lib.hid (KX.out.step hB)
  clear hB ho1
  rw [nm77]
  go_wp2_with fail
  refine Builtin_any _ _ (fun w53 v hB ho => ?_)
  replace HB := Lib.hid (HB.out.step hB)
  replace HO := Lib.hid (HO.out.step hB)
  replace KX := Lib.hid (KX.out.step hB)
  clear hB
  have ho1 := Own.kz ho
  obtain ⟨a'', c'', rfl⟩ : ∃ a c, v = .slice a 7 c := by
    obtain ⟨a, c, e⟩ := Own.slice ho
    exact ⟨a, c, e⟩
  clear ho
  go_wp2_with fail
  refine Alter_any 0 _ _ _ builtinL (builtinL ++ [ageA]) _ ho1 (Own.kz HO.out.here) (Nat.le_refl _) _ (fun w54 hB => ?_)
  replace HB := Lib.hid (HB.out.step hB)
  replace HO := Lib.hid (HO.out.step hB)
  replace KX := Lib.hid (KX.out.step hB)
  clear hB ho1
  rw [nm0]
  have hr := HR.out w54 HB.out.here
  go_wp2_with fail
  all_goals first | exact hr | exact fin hr rfl
end Go.Proofs.Ytkcpanaojehgiaa
